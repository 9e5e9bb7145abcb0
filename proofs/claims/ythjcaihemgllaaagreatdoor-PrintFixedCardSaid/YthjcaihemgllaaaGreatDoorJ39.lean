/-
  What the law needs, packed: PN PO PQ.
-/
import Derived.Test.YthjcaihemgllaaaGreatDoorJ38
open Go.Proofs.Tryz renaming f162->Aa0,f171->Aa5
open Option renaming getD->Aa1
open List renaming getElem?_cons_zero->Aa2,getElem?_cons_succ->Aa3,getElem?_toArray->Aa4,filterMap_cons->Aa6,filterMap_nil->Aa7,not_mem_nil->Aa8,mem_cons->Aa9
open Nat renaming reduceLT->Aaa,le_of_ble_eq_true->Aac
open Bool renaming false_eq_true->Aab
namespace Go.HH
open Go Go.Proofs
set_option maxRecDepth 100000
set_option maxHeartbeats 4000000
set_option linter.unusedSimpArgs false
set_option linter.unusedVariables false
theorem KH:Jy CC Aa5 (Aa5.body.getD .skip)=true:=by kernel_rfl
theorem KI:Be CC Aa5 (Aa5.body.getD .skip)=false:=by kernel_rfl
theorem JW:CC.P.funcs[171]?=some Aa5:=by kernel_rfl
theorem DI {x:List PV} {b:List PBox} (h:x.length.ble Aa5.ntmps=true):Ad CC 171 x b=CM CC Aa5.results.toList (Lh CC (Aa5.body.getD .skip) ⟨x,b⟩):=CN (fn:=Aa5) (c:=Aa5.body.getD .skip) rfl rfl JW rfl KI KH (Aac h)
theorem jH (Lc:Code) (hL:Lc=Ab Aa5 [1,1,0]) {id:Nat} {L:List Tk} {o:Nat} {RL:PV} (hR:RL.pure=true) (hT:TokOK L) (ho:o<=100):∀ (m:Nat),(∀ k,k < m->FK 178 .prod id L RL k)->∀ (i:Nat) (a:Tr),i < L.length->match pz L m (.sumL a) o i with
 | .ok v j=>∀ (bx:List PBox) (hid:id < bx.length) (hc:DN bx) (e:List PV),getT e 0=.bp id 0->getT e 2=.bp bx.length 0->getT e 3=.bp (bx.length+1) 0->∃ e',Lh CC Lc ⟨e,BX bx id (Ap L i o RL) [.cells 29 [.int .i64 0,.int .i64 0,.int .i64 0,.str [],.int .i64 0,.int .i64 0,.str [],.int .i64 0,.str [],.str [],.nils],.cells 29 (Bo a)]⟩=some (.ret,⟨e',BX bx id (Ap L j o RL) [.cells 29 (Bo v),.cells 29 (Bo v)]⟩)/\getT e' 2=.bp bx.length 0
 | .bad t c=>∃ i' o',∀ (bx:List PBox) (hid:id < bx.length) (hc:DN bx) (e:List PV),getT e 0=.bp id 0->getT e 2=.bp bx.length 0->getT e 3=.bp (bx.length+1) 0->∃ e' ys',Lh CC Lc ⟨e,BX bx id (Ap L i o RL) [.cells 29 [.int .i64 0,.int .i64 0,.int .i64 0,.str [],.int .i64 0,.int .i64 0,.str [],.int .i64 0,.str [],.str [],.nils],.cells 29 (Bo a)]⟩=some (.pan (B7 t c),⟨e',BX bx id (Ap L i' o' RL) ys'⟩)
 | .out=>True:=by
 intro m
 induction m with
 | zero=>intro _ i a hi;trivial
 | succ m ih=>
  intro hu i a hi;rw [pz];cases hk:Br L 4 [43] i with
  | true=>
   simp only [if_true];have BF:=AM hT hi hk (by decide);have h1:=hu m (by omega) (i+1) o BF ho;cases r1:pz L m .prod o (i+1) with
   | out=>trivial
   | bad t c=>
    rw [r1] at h1;obtain ⟨i',o',h1⟩:=h1;refine ⟨i',o',fun bx hid hc e g0 g2 g3=>?_⟩;have t0:=Aa hid hc hR (Bb (id:=id) (o:=o) hR hi hT _ hk);have t1:=Am hid hc hR h1;have hd:=fun e g0 g3=>T0 (L:=L) hR a hid hc e g0 g3 t1;rw [Ev (Ab Aa5 [1,1,0,0]) hL];simp only [<- A6 Wj] at hd;unfold Ap at|-hd;rw [<- Cf];rw [<- C3] at t0;rw [<- IQ] at hd;simp only [opsOf,Ab,Ac,Aa5,Aa1] at|-hd;simp only [S9,A5,seval,PY,PZ,AS,g0,g2,g3,t0,hd,SX,hid];exact ⟨_,_,rfl⟩
   | ok b i1=>
    rw [r1] at h1;have Gu:=(He hT _ _ _ _ _ _ BF r1).2;dsimp only [Au];have key:=ih (fun k hk=>hu k (by omega)) i1 (Bd 11 [a,b]) Gu;cases r2:pz L m (.sumL (Bd 11 [a,b])) o i1 with
    | out=>trivial
    | ok v j=>
     rw [r2] at key;intro bx hid hc e g0 g2 g3;have key:=key bx hid hc;have t0:=Aa hid hc hR (Bb (id:=id) (o:=o) hR hi hT _ hk);have t1:=Aa hid hc hR h1;rw [Ao] at t1;have hd:=fun e g0 g3=>Nb (L:=L) hR a b hid hc e g0 g3 t1;rw [Ev (Ab Aa5 [1,1,0,0]) hL];simp only [<- A6 Wj] at hd;unfold Ap at|-hd key;rw [<- Cf];rw [<- Cf] at key;rw [<- C3] at t0;rw [<- IQ] at hd;simp only [opsOf,Ab,Ac,Aa5,Aa1] at|-hd key;simp only [S9,A5,seval,PY,PZ,AS,g0,g2,g3,t0,hd,SX,hid];refine key _ ?_ ?_ ?_
     · simp only [S7,A5,seval,g0]
     · simp only [S7,A5,seval,g2]
     · simp only [S7,A5,seval,g3]
    | bad t c=>
     rw [r2] at key;obtain ⟨i',o',key⟩:=key;refine ⟨i',o',fun bx hid hc e g0 g2 g3=>?_⟩;have key:=key bx hid hc;have t0:=Aa hid hc hR (Bb (id:=id) (o:=o) hR hi hT _ hk);have t1:=Aa hid hc hR h1;rw [Ao] at t1;have hd:=fun e g0 g3=>Nb (L:=L) hR a b hid hc e g0 g3 t1;rw [Ev (Ab Aa5 [1,1,0,0]) hL];simp only [<- A6 Wj] at hd;unfold Ap at|-hd key;rw [<- Cf];rw [<- Cf] at key;rw [<- C3] at t0;rw [<- IQ] at hd;simp only [opsOf,Ab,Ac,Aa5,Aa1] at|-hd key;simp only [S9,A5,seval,PY,PZ,AS,g0,g2,g3,t0,hd,SX,hid];refine key _ ?_ ?_ ?_
     · simp only [S7,A5,seval,g0]
     · simp only [S7,A5,seval,g2]
     · simp only [S7,A5,seval,g3]
  | false=>
   have uH:=hk;clear hk;simp only [Aab,if_false];cases hk:Br L 4 [45] i with
   | true=>
    simp only [if_true];have BF:=AM hT hi hk (by decide);have h1:=hu m (by omega) (i+1) o BF ho;cases r1:pz L m .prod o (i+1) with
    | out=>trivial
    | bad t c=>
     rw [r1] at h1;obtain ⟨i',o',h1⟩:=h1;refine ⟨i',o',fun bx hid hc e g0 g2 g3=>?_⟩;have t0:=Aa hid hc hR (AQ (id:=id) (o:=o) hR hi hT _ uH);have t2:=Aa hid hc hR (Bb (id:=id) (o:=o) hR hi hT _ hk);have t1:=Am hid hc hR h1;have hd:=fun e g0 g3=>T4 (L:=L) hR a hid hc e g0 g3 t1;rw [Ev (Ab Aa5 [1,1,0,0]) hL];simp only [<- A6 Wk] at hd;unfold Ap at|-hd;rw [<- Cf];rw [<- C3] at t0 t2;rw [<- IQ] at hd;simp only [opsOf,Ab,Ac,Aa5,Aa1] at|-hd;simp only [S9,A5,seval,PY,PZ,AS,g0,g2,g3,t0,t2,hd,SX,hid];exact ⟨_,_,rfl⟩
    | ok b i1=>
     rw [r1] at h1;have Gu:=(He hT _ _ _ _ _ _ BF r1).2;dsimp only [Au];have key:=ih (fun k hk=>hu k (by omega)) i1 (Bd 12 [a,b]) Gu;cases r2:pz L m (.sumL (Bd 12 [a,b])) o i1 with
     | out=>trivial
     | ok v j=>
      rw [r2] at key;intro bx hid hc e g0 g2 g3;have key:=key bx hid hc;have t0:=Aa hid hc hR (AQ (id:=id) (o:=o) hR hi hT _ uH);have t2:=Aa hid hc hR (Bb (id:=id) (o:=o) hR hi hT _ hk);have t1:=Aa hid hc hR h1;rw [Ao] at t1;have hd:=fun e g0 g3=>Nd (L:=L) hR a b hid hc e g0 g3 t1;rw [Ev (Ab Aa5 [1,1,0,0]) hL];simp only [<- A6 Wk] at hd;unfold Ap at|-hd key;rw [<- Cf];rw [<- Cf] at key;rw [<- C3] at t0 t2;rw [<- IQ] at hd;simp only [opsOf,Ab,Ac,Aa5,Aa1] at|-hd key;simp only [S9,A5,seval,PY,PZ,AS,g0,g2,g3,t0,t2,hd,SX,hid];refine key _ ?_ ?_ ?_
      · simp only [S7,A5,seval,g0]
      · simp only [S7,A5,seval,g2]
      · simp only [S7,A5,seval,g3]
     | bad t c=>
      rw [r2] at key;obtain ⟨i',o',key⟩:=key;refine ⟨i',o',fun bx hid hc e g0 g2 g3=>?_⟩;have key:=key bx hid hc;have t0:=Aa hid hc hR (AQ (id:=id) (o:=o) hR hi hT _ uH);have t2:=Aa hid hc hR (Bb (id:=id) (o:=o) hR hi hT _ hk);have t1:=Aa hid hc hR h1;rw [Ao] at t1;have hd:=fun e g0 g3=>Nd (L:=L) hR a b hid hc e g0 g3 t1;rw [Ev (Ab Aa5 [1,1,0,0]) hL];simp only [<- A6 Wk] at hd;unfold Ap at|-hd key;rw [<- Cf];rw [<- Cf] at key;rw [<- C3] at t0 t2;rw [<- IQ] at hd;simp only [opsOf,Ab,Ac,Aa5,Aa1] at|-hd key;simp only [S9,A5,seval,PY,PZ,AS,g0,g2,g3,t0,t2,hd,SX,hid];refine key _ ?_ ?_ ?_
      · simp only [S7,A5,seval,g0]
      · simp only [S7,A5,seval,g2]
      · simp only [S7,A5,seval,g3]
   | false=>
    simp only [Aab,if_false];intro bx hid hc e g0 g2 g3;have t0:=Aa hid hc hR (AQ (id:=id) (o:=o) hR hi hT _ uH);have t2:=Aa hid hc hR (AQ (id:=id) (o:=o) hR hi hT _ hk);rw [Ev (Ab Aa5 [1,1,0,0]) hL];unfold Ap at |-;rw [<- Cf];rw [<- C3] at t0 t2;simp only [opsOf,Ab,Ac,Aa5,Aa1] at |-;simp only [S9,A5,seval,PY,PZ,AS,g0,g2,g3,t0,t2,SX,hid];exact ⟨_,rfl,by simp only [S7,A5,seval,g2]⟩
theorem n4 {id:Nat} {L:List Tk} {RL:PV} (hR:RL.pure=true) (hT:TokOK L) (n:Nat) (hu:∀ k,k<=n->FK 178 .prod id L RL k):FK 171 .sum id L RL (n+1):=by
 intro i o hi ho;rw [pz];have h0:=hu n (Nat.le_refl _) i o hi ho;cases r0:pz L n .prod o i with
 | out=>exact AT
 | bad t c=>
  rw [r0] at h0;obtain ⟨i',o',h0⟩:=h0;refine AK ⟨i',o',Aw hR fun bx hid hc=>?_⟩;have t0:=Am hid hc hR h0;rw [DI rfl];unfold Ap at |-;rw [<- Cf];rw [<- C3] at t0;simp only [opsOf,Ab,Ac,Aa5,Aa1] at |-;simp only [S9,A5,seval,PY,PZ,AS,t0,SX,hid];exact ⟨_,rfl⟩
 | ok a i1=>
  rw [r0] at h0;dsimp only [Au];have BF:=(He hT _ _ _ _ _ _ hi r0).2;have Af:=jH _ rfl (id:=id) (RL:=RL) hR hT ho n (fun k hk=>hu k (by omega)) i1 a BF;cases r1:pz L n (.sumL a) o i1 with
  | out=>exact AT
  | ok v j=>
   rw [r1] at Af;refine Bh (A4 hR (fun n=>by rw [Ao];simp only [SX,PV.under]) fun bx hid hc=>?_);have Af:=Af bx hid hc;have t0:=Aa hid hc hR h0;rw [Ao] at t0;rw [DI rfl];rw [Ao];unfold Ap at|-Af;rw [<- Cf];rw [<- Cf] at Af;rw [<- C3] at t0;simp only [opsOf,Ab,Ac,Aa5,Aa1] at|-Af;simp only [S9,A5,seval,PY,PZ,AS,t0,SX,hid];generalize hE:S5 _ _=z
   have hP:∃ e',z=some (.ret,⟨e',BX bx id (.cells 92 [.sl (Bj L),.int .i64 ((j:Nat):Int),.int .i64 ((o:Nat):Int),RL]) [.cells 29 (Bo v),.cells 29 (Bo v)]⟩)/\getT e' 2=.bp bx.length 0:=by
    rw [<- hE];refine Af _ ?_ ?_ ?_
    · simp only [S7,A5,seval]
    · simp only [S7,A5,seval]
    · simp only [S7,A5,seval]
   obtain ⟨e',he,g2⟩:=hP;subst he;clear hE Af;simp only [S9,A5,seval,PY,PZ,AS,SX,g2,hid];exact ⟨_,rfl⟩
  | bad t c=>
   rw [r1] at Af;obtain ⟨i',o',Af⟩:=Af;refine AK ⟨i',o',Aw hR fun bx hid hc=>?_⟩;have Af:=Af bx hid hc;have t0:=Aa hid hc hR h0;rw [Ao] at t0;rw [DI rfl];unfold Ap at|-Af;rw [<- Cf];rw [<- Cf] at Af;rw [<- C3] at t0;simp only [opsOf,Ab,Ac,Aa5,Aa1] at|-Af;simp only [S9,A5,seval,PY,PZ,AS,t0,SX,hid];generalize hE:S5 _ _=z
   have hP:∃ e' ys',z=some (.pan (B7 t c),⟨e',BX bx id (.cells 92 [.sl (Bj L),.int .i64 ((i':Nat):Int),.int .i64 ((o':Nat):Int),RL]) ys'⟩):=by
    rw [<- hE];refine Af _ ?_ ?_ ?_
    · simp only [S7,A5,seval]
    · simp only [S7,A5,seval]
    · simp only [S7,A5,seval]
   obtain ⟨e',ys',he⟩:=hP;subst he;clear hE Af;simp only [S9,A5,seval,PY,PZ,AS,SX,hid];exact ⟨_,rfl⟩
theorem H2:Jy CC Aa0 (Aa0.body.getD .skip)=true:=by kernel_rfl
theorem H3:Be CC Aa0 (Aa0.body.getD .skip)=false:=by kernel_rfl
theorem Hs:CC.P.funcs[162]?=some Aa0:=by kernel_rfl
theorem AF {x:List PV} {b:List PBox} (h:x.length.ble Aa0.ntmps=true):Ad CC 162 x b=CM CC Aa0.results.toList (Lh CC (Aa0.body.getD .skip) ⟨x,b⟩):=CN (fn:=Aa0) (c:=Aa0.body.getD .skip) rfl rfl Hs rfl H3 H2 (Aac h)
theorem cP:CL CC (opsOf (Ab Aa0 [1,1,0,0,1,0,0]))=false:=by kernel_rfl
theorem Nf:BO (opsOf (Ab Aa0 [1,1,0,0,1,0,0]))=[[0,1,2,3,4,5],[1,0,2,3,4,5],[1,2,0,3,4,5]]:=by kernel_rfl
theorem Wl {bx:List PBox} {id:Nat} {L:List Tk} {i o:Nat} {RL:PV} (hR:RL.pure=true) (a b:Tr) {j:Nat} (hid:id < bx.length) (hc:DN bx)  (e:List PV) (g0:getT e 0=.bp id 0) (g2:getT e 2=.bp bx.length 0) (g3:getT e 3=.bp (bx.length+1) 0) (t1:∀ ys:List PBox,(ys.all fun x=>x.under (bx.length+ys.length))=true->Ai CC (Ad CC) 171 [.bp id 0] (BX bx id (.cells 92 [.sl (Bj L),.int .i64 ((i:Nat):Int),.int .i64 ((o:Nat):Int),RL]) ys)=some (.ret (.agg (Bo b)),BX bx id (.cells 92 [.sl (Bj L),.int .i64 ((j:Nat):Int),.int .i64 ((o:Nat):Int),RL]) ys)) :
 drawAll CC (Ad CC) (opsOf (Ab Aa0 [1,1,0,0,1,0,0])) ⟨e,BX bx id (Ap L i o RL) [.cells 29 [.int .i64 0,.int .i64 0,.int .i64 0,.str [],.int .i64 0,.int .i64 0,.str [],.int .i64 0,.str [],.str [],.nils],.cells 29 (Bo a)]⟩=some (.normal,⟨(setT (setT (setT (setT (setT e 9 (.agg (Bo a))) 10 (.bp id 0)) 11 (.agg (Bo b))) 12 (.osl 29 [.agg (Bo a),.agg (Bo b)])) 13 (.agg (Bo (Bd 9 [a,b])))),BX bx id (Ap L j o RL) [.cells 29 (Bo (Bd 9 [a,b])),.cells 29 (Bo a)]⟩):=by
 have hb:=TW a b;have hn:=TY 9 a b;refine AV.2 ⟨by rw [Nf];simp,fun l hl=>?_⟩;rw [Nf] at hl;unfold Ap;rw [<- Mv];rw [<- C3] at t1 hn;simp only [Aa9,Aa8,or_false] at hl;rcases hl with rfl | rfl | rfl
 all_goals
  simp only [opsOf,Ab,Ac,Aa0,Aa1,AR,Aa6,Aa7,Aa4,Aa3,Aa2];simp only [S9,A5,seval,PY,PZ,AS,g0,g2,g3,SX,AX,Bf,t1,hb,hn,hid]
  try simp only [Fv,Aaa]
theorem T5 {bx:List PBox} {id:Nat} {L:List Tk} {i o:Nat} {RL:PV} (hR:RL.pure=true) (a:Tr) {t:Nat} {c:Int} {i' o':Nat} (hid:id < bx.length) (hc:DN bx)  (e:List PV) (g0:getT e 0=.bp id 0) (g2:getT e 2=.bp bx.length 0) (g3:getT e 3=.bp (bx.length+1) 0) (t1:∀ ys:List PBox,(ys.all fun x=>x.under (bx.length+ys.length))=true->Ai CC (Ad CC) 171 [.bp id 0] (BX bx id (.cells 92 [.sl (Bj L),.int .i64 ((i:Nat):Int),.int .i64 ((o:Nat):Int),RL]) ys)=some (.pan (B7 t c),BX bx id (.cells 92 [.sl (Bj L),.int .i64 ((i':Nat):Int),.int .i64 ((o':Nat):Int),RL]) ys)) :
 drawAll CC (Ad CC) (opsOf (Ab Aa0 [1,1,0,0,1,0,0])) ⟨e,BX bx id (Ap L i o RL) [.cells 29 [.int .i64 0,.int .i64 0,.int .i64 0,.str [],.int .i64 0,.int .i64 0,.str [],.int .i64 0,.str [],.str [],.nils],.cells 29 (Bo a)]⟩=some (.pan (B7 t c),⟨[],BX bx id (Ap L i' o' RL) [.cells 29 [.int .i64 0,.int .i64 0,.int .i64 0,.str [],.int .i64 0,.int .i64 0,.str [],.int .i64 0,.str [],.str [],.nils],.cells 29 (Bo a)]⟩):=by
 refine AV.2 ⟨by rw [Nf];simp,fun l hl=>?_⟩;rw [Nf] at hl;unfold Ap;rw [<- Mv];rw [<- C3] at t1;simp only [Aa9,Aa8,or_false] at hl;rcases hl with rfl | rfl | rfl
 all_goals
  simp only [opsOf,Ab,Ac,Aa0,Aa1,AR,Aa6,Aa7,Aa4,Aa3,Aa2];simp only [S9,A5,seval,PY,PZ,AS,g0,g2,g3,SX,AX,Bf,t1,hid]
theorem cQ:CL CC (opsOf (Ab Aa0 [1,1,0,0,1,1,1,0,0]))=false:=by kernel_rfl
theorem Ng:BO (opsOf (Ab Aa0 [1,1,0,0,1,1,1,0,0]))=[[0,1,2,3,4,5,6,7],[1,0,2,3,4,5,6,7],[1,2,0,3,4,5,6,7]]:=by kernel_rfl
theorem Wm {bx:List PBox} {id:Nat} {L:List Tk} {i o:Nat} {RL:PV} (hR:RL.pure=true) (a b:Tr) {j:Nat} (hid:id < bx.length) (hc:DN bx)  (e:List PV) (g0:getT e 0=.bp id 0) (g2:getT e 2=.bp bx.length 0) (g3:getT e 3=.bp (bx.length+1) 0) (t1:∀ ys:List PBox,(ys.all fun x=>x.under (bx.length+ys.length))=true->Ai CC (Ad CC) 171 [.bp id 0] (BX bx id (.cells 92 [.sl (Bj L),.int .i64 ((i:Nat):Int),.int .i64 ((o:Nat):Int),RL]) ys)=some (.ret (.agg (Bo b)),BX bx id (.cells 92 [.sl (Bj L),.int .i64 ((j:Nat):Int),.int .i64 ((o:Nat):Int),RL]) ys)) :
 drawAll CC (Ad CC) (opsOf (Ab Aa0 [1,1,0,0,1,1,1,0,0])) ⟨e,BX bx id (Ap L i o RL) [.cells 29 [.int .i64 0,.int .i64 0,.int .i64 0,.str [],.int .i64 0,.int .i64 0,.str [],.int .i64 0,.str [],.str [],.nils],.cells 29 (Bo a)]⟩=some (.normal,⟨(setT (setT (setT (setT (setT (setT (setT e 17 (.agg (Bo a))) 18 (.bp id 0)) 19 (.agg (Bo b))) 20 (.osl 29 [.agg (Bo a),.agg (Bo b)])) 21 (.agg (Bo (Bd 9 [a,b])))) 22 (.osl 29 [.agg (Bo (Bd 9 [a,b]))])) 23 (.agg (Bo (Bd 6 [Bd 9 [a,b]])))),BX bx id (Ap L j o RL) [.cells 29 (Bo (Bd 6 [Bd 9 [a,b]])),.cells 29 (Bo a)]⟩):=by
 have hb:=TW a b;have hn:=TY 9 a b;have ra:=fL (Bd 9 [a,b]);have mR:=n3 6 (Bd 9 [a,b]);refine AV.2 ⟨by rw [Ng];simp,fun l hl=>?_⟩;rw [Ng] at hl;unfold Ap;rw [<- Mv];rw [<- C3] at t1 hn mR;simp only [Aa9,Aa8,or_false] at hl;rcases hl with rfl | rfl | rfl
 all_goals
  simp only [opsOf,Ab,Ac,Aa0,Aa1,AR,Aa6,Aa7,Aa4,Aa3,Aa2];simp only [S9,A5,seval,PY,PZ,AS,g0,g2,g3,SX,AX,Bf,t1,hb,hn,ra,mR,hid]
  try simp only [Fv,Aaa]
theorem T6 {bx:List PBox} {id:Nat} {L:List Tk} {i o:Nat} {RL:PV} (hR:RL.pure=true) (a:Tr) {t:Nat} {c:Int} {i' o':Nat} (hid:id < bx.length) (hc:DN bx)  (e:List PV) (g0:getT e 0=.bp id 0) (g2:getT e 2=.bp bx.length 0) (g3:getT e 3=.bp (bx.length+1) 0) (t1:∀ ys:List PBox,(ys.all fun x=>x.under (bx.length+ys.length))=true->Ai CC (Ad CC) 171 [.bp id 0] (BX bx id (.cells 92 [.sl (Bj L),.int .i64 ((i:Nat):Int),.int .i64 ((o:Nat):Int),RL]) ys)=some (.pan (B7 t c),BX bx id (.cells 92 [.sl (Bj L),.int .i64 ((i':Nat):Int),.int .i64 ((o':Nat):Int),RL]) ys)) :
 drawAll CC (Ad CC) (opsOf (Ab Aa0 [1,1,0,0,1,1,1,0,0])) ⟨e,BX bx id (Ap L i o RL) [.cells 29 [.int .i64 0,.int .i64 0,.int .i64 0,.str [],.int .i64 0,.int .i64 0,.str [],.int .i64 0,.str [],.str [],.nils],.cells 29 (Bo a)]⟩=some (.pan (B7 t c),⟨[],BX bx id (Ap L i' o' RL) [.cells 29 [.int .i64 0,.int .i64 0,.int .i64 0,.str [],.int .i64 0,.int .i64 0,.str [],.int .i64 0,.str [],.str [],.nils],.cells 29 (Bo a)]⟩):=by
 refine AV.2 ⟨by rw [Ng];simp,fun l hl=>?_⟩;rw [Ng] at hl;unfold Ap;rw [<- Mv];rw [<- C3] at t1;simp only [Aa9,Aa8,or_false] at hl;rcases hl with rfl | rfl | rfl
 all_goals
  simp only [opsOf,Ab,Ac,Aa0,Aa1,AR,Aa6,Aa7,Aa4,Aa3,Aa2];simp only [S9,A5,seval,PY,PZ,AS,g0,g2,g3,SX,AX,Bf,t1,hid]
theorem cR:CL CC (opsOf (Ab Aa0 [1,1,0,0,1,1,1,1,1,0,0]))=false:=by kernel_rfl
theorem Nh:BO (opsOf (Ab Aa0 [1,1,0,0,1,1,1,1,1,0,0]))=[[0,1,2,3,4,5],[1,0,2,3,4,5],[1,2,0,3,4,5]]:=by kernel_rfl
theorem Wn {bx:List PBox} {id:Nat} {L:List Tk} {i o:Nat} {RL:PV} (hR:RL.pure=true) (a b:Tr) {j:Nat} (hid:id < bx.length) (hc:DN bx)  (e:List PV) (g0:getT e 0=.bp id 0) (g2:getT e 2=.bp bx.length 0) (g3:getT e 3=.bp (bx.length+1) 0) (t1:∀ ys:List PBox,(ys.all fun x=>x.under (bx.length+ys.length))=true->Ai CC (Ad CC) 171 [.bp id 0] (BX bx id (.cells 92 [.sl (Bj L),.int .i64 ((i:Nat):Int),.int .i64 ((o:Nat):Int),RL]) ys)=some (.ret (.agg (Bo b)),BX bx id (.cells 92 [.sl (Bj L),.int .i64 ((j:Nat):Int),.int .i64 ((o:Nat):Int),RL]) ys)) :
 drawAll CC (Ad CC) (opsOf (Ab Aa0 [1,1,0,0,1,1,1,1,1,0,0])) ⟨e,BX bx id (Ap L i o RL) [.cells 29 [.int .i64 0,.int .i64 0,.int .i64 0,.str [],.int .i64 0,.int .i64 0,.str [],.int .i64 0,.str [],.str [],.nils],.cells 29 (Bo a)]⟩=some (.normal,⟨(setT (setT (setT (setT (setT e 27 (.agg (Bo a))) 28 (.bp id 0)) 29 (.agg (Bo b))) 30 (.osl 29 [.agg (Bo a),.agg (Bo b)])) 31 (.agg (Bo (Bd 10 [a,b])))),BX bx id (Ap L j o RL) [.cells 29 (Bo (Bd 10 [a,b])),.cells 29 (Bo a)]⟩):=by
 have hb:=TW a b;have hn:=TY 10 a b;refine AV.2 ⟨by rw [Nh];simp,fun l hl=>?_⟩;rw [Nh] at hl;unfold Ap;rw [<- Mv];rw [<- C3] at t1 hn;simp only [Aa9,Aa8,or_false] at hl;rcases hl with rfl | rfl | rfl
 all_goals
  simp only [opsOf,Ab,Ac,Aa0,Aa1,AR,Aa6,Aa7,Aa4,Aa3,Aa2];simp only [S9,A5,seval,PY,PZ,AS,g0,g2,g3,SX,AX,Bf,t1,hb,hn,hid]
  try simp only [Fv,Aaa]
theorem T7 {bx:List PBox} {id:Nat} {L:List Tk} {i o:Nat} {RL:PV} (hR:RL.pure=true) (a:Tr) {t:Nat} {c:Int} {i' o':Nat} (hid:id < bx.length) (hc:DN bx)  (e:List PV) (g0:getT e 0=.bp id 0) (g2:getT e 2=.bp bx.length 0) (g3:getT e 3=.bp (bx.length+1) 0) (t1:∀ ys:List PBox,(ys.all fun x=>x.under (bx.length+ys.length))=true->Ai CC (Ad CC) 171 [.bp id 0] (BX bx id (.cells 92 [.sl (Bj L),.int .i64 ((i:Nat):Int),.int .i64 ((o:Nat):Int),RL]) ys)=some (.pan (B7 t c),BX bx id (.cells 92 [.sl (Bj L),.int .i64 ((i':Nat):Int),.int .i64 ((o':Nat):Int),RL]) ys)) :
 drawAll CC (Ad CC) (opsOf (Ab Aa0 [1,1,0,0,1,1,1,1,1,0,0])) ⟨e,BX bx id (Ap L i o RL) [.cells 29 [.int .i64 0,.int .i64 0,.int .i64 0,.str [],.int .i64 0,.int .i64 0,.str [],.int .i64 0,.str [],.str [],.nils],.cells 29 (Bo a)]⟩=some (.pan (B7 t c),⟨[],BX bx id (Ap L i' o' RL) [.cells 29 [.int .i64 0,.int .i64 0,.int .i64 0,.str [],.int .i64 0,.int .i64 0,.str [],.int .i64 0,.str [],.str [],.nils],.cells 29 (Bo a)]⟩):=by
 refine AV.2 ⟨by rw [Nh];simp,fun l hl=>?_⟩;rw [Nh] at hl;unfold Ap;rw [<- Mv];rw [<- C3] at t1;simp only [Aa9,Aa8,or_false] at hl;rcases hl with rfl | rfl | rfl
 all_goals
  simp only [opsOf,Ab,Ac,Aa0,Aa1,AR,Aa6,Aa7,Aa4,Aa3,Aa2];simp only [S9,A5,seval,PY,PZ,AS,g0,g2,g3,SX,AX,Bf,t1,hid]
theorem cS:CL CC (opsOf (Ab Aa0 [1,1,0,0,1,1,1,1,1,1,1,0,0]))=false:=by kernel_rfl
theorem Ni:BO (opsOf (Ab Aa0 [1,1,0,0,1,1,1,1,1,1,1,0,0]))=[[0,1,2,3,4,5,6,7],[1,0,2,3,4,5,6,7],[1,2,0,3,4,5,6,7]]:=by kernel_rfl
theorem Wo {bx:List PBox} {id:Nat} {L:List Tk} {i o:Nat} {RL:PV} (hR:RL.pure=true) (a b:Tr) {j:Nat} (hid:id < bx.length) (hc:DN bx)  (e:List PV) (g0:getT e 0=.bp id 0) (g2:getT e 2=.bp bx.length 0) (g3:getT e 3=.bp (bx.length+1) 0) (t1:∀ ys:List PBox,(ys.all fun x=>x.under (bx.length+ys.length))=true->Ai CC (Ad CC) 171 [.bp id 0] (BX bx id (.cells 92 [.sl (Bj L),.int .i64 ((i:Nat):Int),.int .i64 ((o:Nat):Int),RL]) ys)=some (.ret (.agg (Bo b)),BX bx id (.cells 92 [.sl (Bj L),.int .i64 ((j:Nat):Int),.int .i64 ((o:Nat):Int),RL]) ys)) :
 drawAll CC (Ad CC) (opsOf (Ab Aa0 [1,1,0,0,1,1,1,1,1,1,1,0,0])) ⟨e,BX bx id (Ap L i o RL) [.cells 29 [.int .i64 0,.int .i64 0,.int .i64 0,.str [],.int .i64 0,.int .i64 0,.str [],.int .i64 0,.str [],.str [],.nils],.cells 29 (Bo a)]⟩=some (.normal,⟨(setT (setT (setT (setT (setT (setT (setT e 35 (.agg (Bo a))) 36 (.bp id 0)) 37 (.agg (Bo b))) 38 (.osl 29 [.agg (Bo a),.agg (Bo b)])) 39 (.agg (Bo (Bd 10 [a,b])))) 40 (.osl 29 [.agg (Bo (Bd 10 [a,b]))])) 41 (.agg (Bo (Bd 6 [Bd 10 [a,b]])))),BX bx id (Ap L j o RL) [.cells 29 (Bo (Bd 6 [Bd 10 [a,b]])),.cells 29 (Bo a)]⟩):=by
 have hb:=TW a b;have hn:=TY 10 a b;have ra:=fL (Bd 10 [a,b]);have mR:=n3 6 (Bd 10 [a,b]);refine AV.2 ⟨by rw [Ni];simp,fun l hl=>?_⟩;rw [Ni] at hl;unfold Ap;rw [<- Mv];rw [<- C3] at t1 hn mR;simp only [Aa9,Aa8,or_false] at hl;rcases hl with rfl | rfl | rfl
 all_goals
  simp only [opsOf,Ab,Ac,Aa0,Aa1,AR,Aa6,Aa7,Aa4,Aa3,Aa2];simp only [S9,A5,seval,PY,PZ,AS,g0,g2,g3,SX,AX,Bf,t1,hb,hn,ra,mR,hid]
  try simp only [Fv,Aaa]
theorem T8 {bx:List PBox} {id:Nat} {L:List Tk} {i o:Nat} {RL:PV} (hR:RL.pure=true) (a:Tr) {t:Nat} {c:Int} {i' o':Nat} (hid:id < bx.length) (hc:DN bx)  (e:List PV) (g0:getT e 0=.bp id 0) (g2:getT e 2=.bp bx.length 0) (g3:getT e 3=.bp (bx.length+1) 0) (t1:∀ ys:List PBox,(ys.all fun x=>x.under (bx.length+ys.length))=true->Ai CC (Ad CC) 171 [.bp id 0] (BX bx id (.cells 92 [.sl (Bj L),.int .i64 ((i:Nat):Int),.int .i64 ((o:Nat):Int),RL]) ys)=some (.pan (B7 t c),BX bx id (.cells 92 [.sl (Bj L),.int .i64 ((i':Nat):Int),.int .i64 ((o':Nat):Int),RL]) ys)) :
 drawAll CC (Ad CC) (opsOf (Ab Aa0 [1,1,0,0,1,1,1,1,1,1,1,0,0])) ⟨e,BX bx id (Ap L i o RL) [.cells 29 [.int .i64 0,.int .i64 0,.int .i64 0,.str [],.int .i64 0,.int .i64 0,.str [],.int .i64 0,.str [],.str [],.nils],.cells 29 (Bo a)]⟩=some (.pan (B7 t c),⟨[],BX bx id (Ap L i' o' RL) [.cells 29 [.int .i64 0,.int .i64 0,.int .i64 0,.str [],.int .i64 0,.int .i64 0,.str [],.int .i64 0,.str [],.str [],.nils],.cells 29 (Bo a)]⟩):=by
 refine AV.2 ⟨by rw [Ni];simp,fun l hl=>?_⟩;rw [Ni] at hl;unfold Ap;rw [<- Mv];rw [<- C3] at t1;simp only [Aa9,Aa8,or_false] at hl;rcases hl with rfl | rfl | rfl
 all_goals
  simp only [opsOf,Ab,Ac,Aa0,Aa1,AR,Aa6,Aa7,Aa4,Aa3,Aa2];simp only [S9,A5,seval,PY,PZ,AS,g0,g2,g3,SX,AX,Bf,t1,hid]
theorem cT:CL CC (opsOf (Ab Aa0 [1,1,0,0,1,1,1,1,1,1,1,1,1,0,0]))=false:=by kernel_rfl
theorem Nj:BO (opsOf (Ab Aa0 [1,1,0,0,1,1,1,1,1,1,1,1,1,0,0]))=[[0,1,2,3,4,5],[0,2,1,3,4,5],[2,0,1,3,4,5]]:=by kernel_rfl
theorem Wp {bx:List PBox} {id:Nat} {L:List Tk} {i o:Nat} {RL:PV} (hR:RL.pure=true) (a b:Tr) {j:Nat} (hid:id < bx.length) (hc:DN bx)  (e:List PV) (g0:getT e 0=.bp id 0) (g2:getT e 2=.bp bx.length 0) (g3:getT e 3=.bp (bx.length+1) 0) (t1:∀ ys:List PBox,(ys.all fun x=>x.under (bx.length+ys.length))=true->Ai CC (Ad CC) 171 [.bp id 0] (BX bx id (.cells 92 [.sl (Bj L),.int .i64 ((i:Nat):Int),.int .i64 ((o:Nat):Int),RL]) ys)=some (.ret (.agg (Bo b)),BX bx id (.cells 92 [.sl (Bj L),.int .i64 ((j:Nat):Int),.int .i64 ((o:Nat):Int),RL]) ys)) :
 drawAll CC (Ad CC) (opsOf (Ab Aa0 [1,1,0,0,1,1,1,1,1,1,1,1,1,0,0])) ⟨e,BX bx id (Ap L i o RL) [.cells 29 [.int .i64 0,.int .i64 0,.int .i64 0,.str [],.int .i64 0,.int .i64 0,.str [],.int .i64 0,.str [],.str [],.nils],.cells 29 (Bo a)]⟩=some (.normal,⟨(setT (setT (setT (setT (setT e 45 (.bp id 0)) 46 (.agg (Bo b))) 47 (.agg (Bo a))) 48 (.osl 29 [.agg (Bo b),.agg (Bo a)])) 49 (.agg (Bo (Bd 10 [b,a])))),BX bx id (Ap L j o RL) [.cells 29 (Bo (Bd 10 [b,a])),.cells 29 (Bo a)]⟩):=by
 have hb:=TW b a;have hn:=TY 10 b a;refine AV.2 ⟨by rw [Nj];simp,fun l hl=>?_⟩;rw [Nj] at hl;unfold Ap;rw [<- Mv];rw [<- C3] at t1 hn;simp only [Aa9,Aa8,or_false] at hl;rcases hl with rfl | rfl | rfl
 all_goals
  simp only [opsOf,Ab,Ac,Aa0,Aa1,AR,Aa6,Aa7,Aa4,Aa3,Aa2];simp only [S9,A5,seval,PY,PZ,AS,g0,g2,g3,SX,AX,Bf,t1,hb,hn,hid]
  try simp only [Fv,Aaa]
  try rw [Av _ 47 45 _ _ (by decide)]
  try rw [Av _ 47 46 _ _ (by decide)]
theorem T9 {bx:List PBox} {id:Nat} {L:List Tk} {i o:Nat} {RL:PV} (hR:RL.pure=true) (a:Tr) {t:Nat} {c:Int} {i' o':Nat} (hid:id < bx.length) (hc:DN bx)  (e:List PV) (g0:getT e 0=.bp id 0) (g2:getT e 2=.bp bx.length 0) (g3:getT e 3=.bp (bx.length+1) 0) (t1:∀ ys:List PBox,(ys.all fun x=>x.under (bx.length+ys.length))=true->Ai CC (Ad CC) 171 [.bp id 0] (BX bx id (.cells 92 [.sl (Bj L),.int .i64 ((i:Nat):Int),.int .i64 ((o:Nat):Int),RL]) ys)=some (.pan (B7 t c),BX bx id (.cells 92 [.sl (Bj L),.int .i64 ((i':Nat):Int),.int .i64 ((o':Nat):Int),RL]) ys)) :
 drawAll CC (Ad CC) (opsOf (Ab Aa0 [1,1,0,0,1,1,1,1,1,1,1,1,1,0,0])) ⟨e,BX bx id (Ap L i o RL) [.cells 29 [.int .i64 0,.int .i64 0,.int .i64 0,.str [],.int .i64 0,.int .i64 0,.str [],.int .i64 0,.str [],.str [],.nils],.cells 29 (Bo a)]⟩=some (.pan (B7 t c),⟨[],BX bx id (Ap L i' o' RL) [.cells 29 [.int .i64 0,.int .i64 0,.int .i64 0,.str [],.int .i64 0,.int .i64 0,.str [],.int .i64 0,.str [],.str [],.nils],.cells 29 (Bo a)]⟩):=by
 refine AV.2 ⟨by rw [Nj];simp,fun l hl=>?_⟩;rw [Nj] at hl;unfold Ap;rw [<- Mv];rw [<- C3] at t1;simp only [Aa9,Aa8,or_false] at hl;rcases hl with rfl | rfl | rfl
 all_goals
  simp only [opsOf,Ab,Ac,Aa0,Aa1,AR,Aa6,Aa7,Aa4,Aa3,Aa2];simp only [S9,A5,seval,PY,PZ,AS,g0,g2,g3,SX,AX,Bf,t1,hid]
theorem cU:CL CC (opsOf (Ab Aa0 [1,1,0,0,1,1,1,1,1,1,1,1,1,1,1,0,0]))=false:=by kernel_rfl
theorem Nk:BO (opsOf (Ab Aa0 [1,1,0,0,1,1,1,1,1,1,1,1,1,1,1,0,0]))=[[0,1,2,3,4,5,6,7],[0,2,1,3,4,5,6,7],[2,0,1,3,4,5,6,7]]:=by kernel_rfl
theorem Wq {bx:List PBox} {id:Nat} {L:List Tk} {i o:Nat} {RL:PV} (hR:RL.pure=true) (a b:Tr) {j:Nat} (hid:id < bx.length) (hc:DN bx)  (e:List PV) (g0:getT e 0=.bp id 0) (g2:getT e 2=.bp bx.length 0) (g3:getT e 3=.bp (bx.length+1) 0) (t1:∀ ys:List PBox,(ys.all fun x=>x.under (bx.length+ys.length))=true->Ai CC (Ad CC) 171 [.bp id 0] (BX bx id (.cells 92 [.sl (Bj L),.int .i64 ((i:Nat):Int),.int .i64 ((o:Nat):Int),RL]) ys)=some (.ret (.agg (Bo b)),BX bx id (.cells 92 [.sl (Bj L),.int .i64 ((j:Nat):Int),.int .i64 ((o:Nat):Int),RL]) ys)) :
 drawAll CC (Ad CC) (opsOf (Ab Aa0 [1,1,0,0,1,1,1,1,1,1,1,1,1,1,1,0,0])) ⟨e,BX bx id (Ap L i o RL) [.cells 29 [.int .i64 0,.int .i64 0,.int .i64 0,.str [],.int .i64 0,.int .i64 0,.str [],.int .i64 0,.str [],.str [],.nils],.cells 29 (Bo a)]⟩=some (.normal,⟨(setT (setT (setT (setT (setT (setT (setT e 53 (.bp id 0)) 54 (.agg (Bo b))) 55 (.agg (Bo a))) 56 (.osl 29 [.agg (Bo b),.agg (Bo a)])) 57 (.agg (Bo (Bd 10 [b,a])))) 58 (.osl 29 [.agg (Bo (Bd 10 [b,a]))])) 59 (.agg (Bo (Bd 6 [Bd 10 [b,a]])))),BX bx id (Ap L j o RL) [.cells 29 (Bo (Bd 6 [Bd 10 [b,a]])),.cells 29 (Bo a)]⟩):=by
 have hb:=TW b a;have hn:=TY 10 b a;have ra:=fL (Bd 10 [b,a]);have mR:=n3 6 (Bd 10 [b,a]);refine AV.2 ⟨by rw [Nk];simp,fun l hl=>?_⟩;rw [Nk] at hl;unfold Ap;rw [<- Mv];rw [<- C3] at t1 hn mR;simp only [Aa9,Aa8,or_false] at hl;rcases hl with rfl | rfl | rfl
 all_goals
  simp only [opsOf,Ab,Ac,Aa0,Aa1,AR,Aa6,Aa7,Aa4,Aa3,Aa2];simp only [S9,A5,seval,PY,PZ,AS,g0,g2,g3,SX,AX,Bf,t1,hb,hn,ra,mR,hid]
  try simp only [Fv,Aaa]
  try rw [Av _ 55 53 _ _ (by decide)]
  try rw [Av _ 55 54 _ _ (by decide)]
theorem Ua {bx:List PBox} {id:Nat} {L:List Tk} {i o:Nat} {RL:PV} (hR:RL.pure=true) (a:Tr) {t:Nat} {c:Int} {i' o':Nat} (hid:id < bx.length) (hc:DN bx)  (e:List PV) (g0:getT e 0=.bp id 0) (g2:getT e 2=.bp bx.length 0) (g3:getT e 3=.bp (bx.length+1) 0) (t1:∀ ys:List PBox,(ys.all fun x=>x.under (bx.length+ys.length))=true->Ai CC (Ad CC) 171 [.bp id 0] (BX bx id (.cells 92 [.sl (Bj L),.int .i64 ((i:Nat):Int),.int .i64 ((o:Nat):Int),RL]) ys)=some (.pan (B7 t c),BX bx id (.cells 92 [.sl (Bj L),.int .i64 ((i':Nat):Int),.int .i64 ((o':Nat):Int),RL]) ys)) :
 drawAll CC (Ad CC) (opsOf (Ab Aa0 [1,1,0,0,1,1,1,1,1,1,1,1,1,1,1,0,0])) ⟨e,BX bx id (Ap L i o RL) [.cells 29 [.int .i64 0,.int .i64 0,.int .i64 0,.str [],.int .i64 0,.int .i64 0,.str [],.int .i64 0,.str [],.str [],.nils],.cells 29 (Bo a)]⟩=some (.pan (B7 t c),⟨[],BX bx id (Ap L i' o' RL) [.cells 29 [.int .i64 0,.int .i64 0,.int .i64 0,.str [],.int .i64 0,.int .i64 0,.str [],.int .i64 0,.str [],.str [],.nils],.cells 29 (Bo a)]⟩):=by
 refine AV.2 ⟨by rw [Nk];simp,fun l hl=>?_⟩;rw [Nk] at hl;unfold Ap;rw [<- Mv];rw [<- C3] at t1;simp only [Aa9,Aa8,or_false] at hl;rcases hl with rfl | rfl | rfl
 all_goals
  simp only [opsOf,Ab,Ac,Aa0,Aa1,AR,Aa6,Aa7,Aa4,Aa3,Aa2];simp only [S9,A5,seval,PY,PZ,AS,g0,g2,g3,SX,AX,Bf,t1,hid]
theorem fO (L:List Tk) (i:Nat):(∃ k,C0 L 4 i GF 0=some k/\k < 6/\Br L 4 (GF.getD k []) i=true/\∀ k',k' < k->Br L 4 (GF.getD k' []) i=false)\/(C0 L 4 i GF 0=none/\∀ k',k' < 6->Br L 4 (GF.getD k' []) i=false):=by
 have gen:∀ (l:List (List UInt8)) (n:Nat),(∃ k,C0 L 4 i l n=some (n+k)/\k < l.length/\Br L 4 (l.getD k []) i=true/\∀ k',k' < k->Br L 4 (l.getD k' []) i=false)\/(C0 L 4 i l n=none/\∀ k',k' < l.length->Br L 4 (l.getD k' []) i=false):=by
  intro l
  induction l with
  | nil=>intro n;exact .inr ⟨rfl,fun k' h=>by simp at h⟩
  | cons w r ih=>
   intro n;unfold C0;cases hw:Br L 4 w i with
   | true=>exact .inl ⟨0,rfl,by simp,hw,fun k' h=>by omega⟩
   | false=>
    simp only [Aab,if_false];rcases ih (n+1) with ⟨k,h1,h2,h3,h4⟩ | ⟨h1,h2⟩
    · refine .inl ⟨k+1,by rw [h1];congr 1;omega,by simp;omega,h3,fun k' rj=>?_⟩
      cases k' with
      | zero=>exact hw
      | succ k'=>exact h4 k' (by omega)
    · refine .inr ⟨h1,fun k' rj=>?_⟩
      cases k' with
      | zero=>exact hw
      | succ k'=>exact h2 k' (by simpa using rj)
 rcases gen GF 0 with ⟨k,h1,h2,h3,h4⟩ | ⟨h1,h2⟩
 · exact .inl ⟨k,by rw [h1,Nat.zero_add],h2,h3,h4⟩
 · exact .inr ⟨h1,h2⟩
theorem n5 {id:Nat} {L:List Tk} {RL:PV} (hR:RL.pure=true) (hT:TokOK L) (n:Nat) (hu:FK 171 .sum id L RL n):FK 162 .cmp id L RL (n+1):=by
 intro i o hi ho;rw [pz];have h0:=hu i o hi ho;cases r0:pz L n .sum o i with
 | out=>exact AT
 | bad t c=>
  rw [r0] at h0;obtain ⟨i',o',h0⟩:=h0;refine AK ⟨i',o',Aw hR fun bx hid hc=>?_⟩;have t0:=Am hid hc hR h0;rw [AF rfl];unfold Ap at |-;rw [<- Cf];rw [<- C3] at t0;simp only [opsOf,Ab,Ac,Aa0,Aa1] at |-;simp only [S9,A5,seval,PY,PZ,AS,t0,SX,hid];exact ⟨_,rfl⟩
 | ok a i1=>
  rw [r0] at h0;dsimp only [Au];have BF:=(He hT _ _ _ _ _ _ hi r0).2;rcases fO L i1 with ⟨k,hp,hk6,ht,hf⟩ | ⟨hp,hf⟩
  · rw [hp]
    dsimp only;have Gu:=AM hT BF ht (by decide);have h1:=hu (i1+1) o Gu ho;have Tb:k=0\/k=1\/k=2\/k=3\/k=4\/k=5:=by omega
    cases r1:pz L n .sum o (i1+1) with
    | out=>exact AT
    | bad t c=>
     rw [r1] at h1;obtain ⟨i',o',h1⟩:=h1;rcases Tb with rfl | rfl | rfl | rfl | rfl | rfl
     · refine AK ⟨i',o',Aw hR fun bx hid hc=>?_⟩
       have t0:=Aa hid hc hR h0;rw [Ao] at t0;have t1:=Am hid hc hR h1;have f0:Br L 4 [61,61] i1=true:=ht;have q0:=Aa hid hc hR (Bb (id:=id) (o:=o) hR BF hT _ f0);have hd:=fun e g0 g2 g3=>T5 (L:=L) hR a hid hc e g0 g2 g3 t1;rw [AF rfl];simp only [<- A6 cP] at hd;unfold Ap at|-hd;rw [<- Cf];rw [<- C3] at t0 q0;rw [<- IQ] at hd;simp only [opsOf,Ab,Ac,Aa0,Aa1] at|-hd;simp only [S9,A5,seval,PY,PZ,AS,t0,q0,hd,SX,hid];exact ⟨_,rfl⟩
     · refine AK ⟨i',o',Aw hR fun bx hid hc=>?_⟩
       have t0:=Aa hid hc hR h0;rw [Ao] at t0;have t1:=Am hid hc hR h1;have f0:Br L 4 [61,61] i1=false:=hf 0 (by decide);have q0:=Aa hid hc hR (AQ (id:=id) (o:=o) hR BF hT _ f0);have f1:Br L 4 [33,61] i1=true:=ht;have q1:=Aa hid hc hR (Bb (id:=id) (o:=o) hR BF hT _ f1);have hd:=fun e g0 g2 g3=>T6 (L:=L) hR a hid hc e g0 g2 g3 t1;rw [AF rfl];simp only [<- A6 cQ] at hd;unfold Ap at|-hd;rw [<- Cf];rw [<- C3] at t0 q0 q1;rw [<- IQ] at hd;simp only [opsOf,Ab,Ac,Aa0,Aa1] at|-hd;simp only [S9,A5,seval,PY,PZ,AS,t0,q0,q1,hd,SX,hid];exact ⟨_,rfl⟩
     · refine AK ⟨i',o',Aw hR fun bx hid hc=>?_⟩
       have t0:=Aa hid hc hR h0;rw [Ao] at t0;have t1:=Am hid hc hR h1;have f0:Br L 4 [61,61] i1=false:=hf 0 (by decide);have q0:=Aa hid hc hR (AQ (id:=id) (o:=o) hR BF hT _ f0);have f1:Br L 4 [33,61] i1=false:=hf 1 (by decide);have q1:=Aa hid hc hR (AQ (id:=id) (o:=o) hR BF hT _ f1);have f2:Br L 4 [60] i1=true:=ht;have q2:=Aa hid hc hR (Bb (id:=id) (o:=o) hR BF hT _ f2);have hd:=fun e g0 g2 g3=>T7 (L:=L) hR a hid hc e g0 g2 g3 t1;rw [AF rfl];simp only [<- A6 cR] at hd;unfold Ap at|-hd;rw [<- Cf];rw [<- C3] at t0 q0 q1 q2;rw [<- IQ] at hd;simp only [opsOf,Ab,Ac,Aa0,Aa1] at|-hd;simp only [S9,A5,seval,PY,PZ,AS,t0,q0,q1,q2,hd,SX,hid];exact ⟨_,rfl⟩
     · refine AK ⟨i',o',Aw hR fun bx hid hc=>?_⟩
       have t0:=Aa hid hc hR h0;rw [Ao] at t0;have t1:=Am hid hc hR h1;have f0:Br L 4 [61,61] i1=false:=hf 0 (by decide);have q0:=Aa hid hc hR (AQ (id:=id) (o:=o) hR BF hT _ f0);have f1:Br L 4 [33,61] i1=false:=hf 1 (by decide);have q1:=Aa hid hc hR (AQ (id:=id) (o:=o) hR BF hT _ f1);have f2:Br L 4 [60] i1=false:=hf 2 (by decide);have q2:=Aa hid hc hR (AQ (id:=id) (o:=o) hR BF hT _ f2);have f3:Br L 4 [62,61] i1=true:=ht;have q3:=Aa hid hc hR (Bb (id:=id) (o:=o) hR BF hT _ f3);have hd:=fun e g0 g2 g3=>T8 (L:=L) hR a hid hc e g0 g2 g3 t1;rw [AF rfl];simp only [<- A6 cS] at hd;unfold Ap at|-hd;rw [<- Cf];rw [<- C3] at t0 q0 q1 q2 q3;rw [<- IQ] at hd;simp only [opsOf,Ab,Ac,Aa0,Aa1] at|-hd;simp only [S9,A5,seval,PY,PZ,AS,t0,q0,q1,q2,q3,hd,SX,hid];exact ⟨_,rfl⟩
     · refine AK ⟨i',o',Aw hR fun bx hid hc=>?_⟩
       have t0:=Aa hid hc hR h0;rw [Ao] at t0;have t1:=Am hid hc hR h1;have f0:Br L 4 [61,61] i1=false:=hf 0 (by decide);have q0:=Aa hid hc hR (AQ (id:=id) (o:=o) hR BF hT _ f0);have f1:Br L 4 [33,61] i1=false:=hf 1 (by decide);have q1:=Aa hid hc hR (AQ (id:=id) (o:=o) hR BF hT _ f1);have f2:Br L 4 [60] i1=false:=hf 2 (by decide);have q2:=Aa hid hc hR (AQ (id:=id) (o:=o) hR BF hT _ f2);have f3:Br L 4 [62,61] i1=false:=hf 3 (by decide);have q3:=Aa hid hc hR (AQ (id:=id) (o:=o) hR BF hT _ f3);have f4:Br L 4 [62] i1=true:=ht;have q4:=Aa hid hc hR (Bb (id:=id) (o:=o) hR BF hT _ f4);have hd:=fun e g0 g2 g3=>T9 (L:=L) hR a hid hc e g0 g2 g3 t1;rw [AF rfl];simp only [<- A6 cT] at hd;unfold Ap at|-hd;rw [<- Cf];rw [<- C3] at t0 q0 q1 q2 q3 q4;rw [<- IQ] at hd;simp only [opsOf,Ab,Ac,Aa0,Aa1] at|-hd;simp only [S9,A5,seval,PY,PZ,AS,t0,q0,q1,q2,q3,q4,hd,SX,hid];exact ⟨_,rfl⟩
     · refine AK ⟨i',o',Aw hR fun bx hid hc=>?_⟩
       have t0:=Aa hid hc hR h0;rw [Ao] at t0;have t1:=Am hid hc hR h1;have f0:Br L 4 [61,61] i1=false:=hf 0 (by decide);have q0:=Aa hid hc hR (AQ (id:=id) (o:=o) hR BF hT _ f0);have f1:Br L 4 [33,61] i1=false:=hf 1 (by decide);have q1:=Aa hid hc hR (AQ (id:=id) (o:=o) hR BF hT _ f1);have f2:Br L 4 [60] i1=false:=hf 2 (by decide);have q2:=Aa hid hc hR (AQ (id:=id) (o:=o) hR BF hT _ f2);have f3:Br L 4 [62,61] i1=false:=hf 3 (by decide);have q3:=Aa hid hc hR (AQ (id:=id) (o:=o) hR BF hT _ f3);have f4:Br L 4 [62] i1=false:=hf 4 (by decide);have q4:=Aa hid hc hR (AQ (id:=id) (o:=o) hR BF hT _ f4);have f5:Br L 4 [60,61] i1=true:=ht;have q5:=Aa hid hc hR (Bb (id:=id) (o:=o) hR BF hT _ f5);have hd:=fun e g0 g2 g3=>Ua (L:=L) hR a hid hc e g0 g2 g3 t1;rw [AF rfl];simp only [<- A6 cU] at hd;unfold Ap at|-hd;rw [<- Cf];rw [<- C3] at t0 q0 q1 q2 q3 q4 q5;rw [<- IQ] at hd;simp only [opsOf,Ab,Ac,Aa0,Aa1] at|-hd;simp only [S9,A5,seval,PY,PZ,AS,t0,q0,q1,q2,q3,q4,q5,hd,SX,hid];exact ⟨_,rfl⟩
    | ok b j=>
     rw [r1] at h1;dsimp only [Au];rcases Tb with rfl | rfl | rfl | rfl | rfl | rfl
     · refine Bh (A4 hR (fun n=>by rw [Ao];simp only [SX,PV.under]) fun bx hid hc=>?_)
       have t0:=Aa hid hc hR h0;rw [Ao] at t0;have t1:=Aa hid hc hR h1;rw [Ao] at t1 |-;unfold PT;have f0:Br L 4 [61,61] i1=true:=ht;have q0:=Aa hid hc hR (Bb (id:=id) (o:=o) hR BF hT _ f0);have hd:=fun e g0 g2 g3=>Wl (L:=L) hR a b hid hc e g0 g2 g3 t1;rw [AF rfl];simp only [<- A6 cP] at hd;unfold Ap at|-hd;rw [<- Cf];rw [<- C3] at t0 q0;rw [<- IQ] at hd;simp only [opsOf,Ab,Ac,Aa0,Aa1] at|-hd;simp only [S9,A5,seval,PY,PZ,AS,t0,q0,hd,SX,hid];exact ⟨_,rfl⟩
     · refine Bh (A4 hR (fun n=>by rw [Ao];simp only [SX,PV.under]) fun bx hid hc=>?_)
       have t0:=Aa hid hc hR h0;rw [Ao] at t0;have t1:=Aa hid hc hR h1;rw [Ao] at t1 |-;unfold PT;have f0:Br L 4 [61,61] i1=false:=hf 0 (by decide);have q0:=Aa hid hc hR (AQ (id:=id) (o:=o) hR BF hT _ f0);have f1:Br L 4 [33,61] i1=true:=ht;have q1:=Aa hid hc hR (Bb (id:=id) (o:=o) hR BF hT _ f1);have hd:=fun e g0 g2 g3=>Wm (L:=L) hR a b hid hc e g0 g2 g3 t1;rw [AF rfl];simp only [<- A6 cQ] at hd;unfold Ap at|-hd;rw [<- Cf];rw [<- C3] at t0 q0 q1;rw [<- IQ] at hd;simp only [opsOf,Ab,Ac,Aa0,Aa1] at|-hd;simp only [S9,A5,seval,PY,PZ,AS,t0,q0,q1,hd,SX,hid];exact ⟨_,rfl⟩
     · refine Bh (A4 hR (fun n=>by rw [Ao];simp only [SX,PV.under]) fun bx hid hc=>?_)
       have t0:=Aa hid hc hR h0;rw [Ao] at t0;have t1:=Aa hid hc hR h1;rw [Ao] at t1 |-;unfold PT;have f0:Br L 4 [61,61] i1=false:=hf 0 (by decide);have q0:=Aa hid hc hR (AQ (id:=id) (o:=o) hR BF hT _ f0);have f1:Br L 4 [33,61] i1=false:=hf 1 (by decide);have q1:=Aa hid hc hR (AQ (id:=id) (o:=o) hR BF hT _ f1);have f2:Br L 4 [60] i1=true:=ht;have q2:=Aa hid hc hR (Bb (id:=id) (o:=o) hR BF hT _ f2);have hd:=fun e g0 g2 g3=>Wn (L:=L) hR a b hid hc e g0 g2 g3 t1;rw [AF rfl];simp only [<- A6 cR] at hd;unfold Ap at|-hd;rw [<- Cf];rw [<- C3] at t0 q0 q1 q2;rw [<- IQ] at hd;simp only [opsOf,Ab,Ac,Aa0,Aa1] at|-hd;simp only [S9,A5,seval,PY,PZ,AS,t0,q0,q1,q2,hd,SX,hid];exact ⟨_,rfl⟩
     · refine Bh (A4 hR (fun n=>by rw [Ao];simp only [SX,PV.under]) fun bx hid hc=>?_)
       have t0:=Aa hid hc hR h0;rw [Ao] at t0;have t1:=Aa hid hc hR h1;rw [Ao] at t1 |-;unfold PT;have f0:Br L 4 [61,61] i1=false:=hf 0 (by decide);have q0:=Aa hid hc hR (AQ (id:=id) (o:=o) hR BF hT _ f0);have f1:Br L 4 [33,61] i1=false:=hf 1 (by decide);have q1:=Aa hid hc hR (AQ (id:=id) (o:=o) hR BF hT _ f1);have f2:Br L 4 [60] i1=false:=hf 2 (by decide);have q2:=Aa hid hc hR (AQ (id:=id) (o:=o) hR BF hT _ f2);have f3:Br L 4 [62,61] i1=true:=ht;have q3:=Aa hid hc hR (Bb (id:=id) (o:=o) hR BF hT _ f3);have hd:=fun e g0 g2 g3=>Wo (L:=L) hR a b hid hc e g0 g2 g3 t1;rw [AF rfl];simp only [<- A6 cS] at hd;unfold Ap at|-hd;rw [<- Cf];rw [<- C3] at t0 q0 q1 q2 q3;rw [<- IQ] at hd;simp only [opsOf,Ab,Ac,Aa0,Aa1] at|-hd;simp only [S9,A5,seval,PY,PZ,AS,t0,q0,q1,q2,q3,hd,SX,hid];exact ⟨_,rfl⟩
     · refine Bh (A4 hR (fun n=>by rw [Ao];simp only [SX,PV.under]) fun bx hid hc=>?_)
       have t0:=Aa hid hc hR h0;rw [Ao] at t0;have t1:=Aa hid hc hR h1;rw [Ao] at t1 |-;unfold PT;have f0:Br L 4 [61,61] i1=false:=hf 0 (by decide);have q0:=Aa hid hc hR (AQ (id:=id) (o:=o) hR BF hT _ f0);have f1:Br L 4 [33,61] i1=false:=hf 1 (by decide);have q1:=Aa hid hc hR (AQ (id:=id) (o:=o) hR BF hT _ f1);have f2:Br L 4 [60] i1=false:=hf 2 (by decide);have q2:=Aa hid hc hR (AQ (id:=id) (o:=o) hR BF hT _ f2);have f3:Br L 4 [62,61] i1=false:=hf 3 (by decide);have q3:=Aa hid hc hR (AQ (id:=id) (o:=o) hR BF hT _ f3);have f4:Br L 4 [62] i1=true:=ht;have q4:=Aa hid hc hR (Bb (id:=id) (o:=o) hR BF hT _ f4);have hd:=fun e g0 g2 g3=>Wp (L:=L) hR a b hid hc e g0 g2 g3 t1;rw [AF rfl];simp only [<- A6 cT] at hd;unfold Ap at|-hd;rw [<- Cf];rw [<- C3] at t0 q0 q1 q2 q3 q4;rw [<- IQ] at hd;simp only [opsOf,Ab,Ac,Aa0,Aa1] at|-hd;simp only [S9,A5,seval,PY,PZ,AS,t0,q0,q1,q2,q3,q4,hd,SX,hid];exact ⟨_,rfl⟩
     · refine Bh (A4 hR (fun n=>by rw [Ao];simp only [SX,PV.under]) fun bx hid hc=>?_)
       have t0:=Aa hid hc hR h0;rw [Ao] at t0;have t1:=Aa hid hc hR h1;rw [Ao] at t1 |-;unfold PT;have f0:Br L 4 [61,61] i1=false:=hf 0 (by decide);have q0:=Aa hid hc hR (AQ (id:=id) (o:=o) hR BF hT _ f0);have f1:Br L 4 [33,61] i1=false:=hf 1 (by decide);have q1:=Aa hid hc hR (AQ (id:=id) (o:=o) hR BF hT _ f1);have f2:Br L 4 [60] i1=false:=hf 2 (by decide);have q2:=Aa hid hc hR (AQ (id:=id) (o:=o) hR BF hT _ f2);have f3:Br L 4 [62,61] i1=false:=hf 3 (by decide);have q3:=Aa hid hc hR (AQ (id:=id) (o:=o) hR BF hT _ f3);have f4:Br L 4 [62] i1=false:=hf 4 (by decide);have q4:=Aa hid hc hR (AQ (id:=id) (o:=o) hR BF hT _ f4);have f5:Br L 4 [60,61] i1=true:=ht;have q5:=Aa hid hc hR (Bb (id:=id) (o:=o) hR BF hT _ f5);have hd:=fun e g0 g2 g3=>Wq (L:=L) hR a b hid hc e g0 g2 g3 t1;rw [AF rfl];simp only [<- A6 cU] at hd;unfold Ap at|-hd;rw [<- Cf];rw [<- C3] at t0 q0 q1 q2 q3 q4 q5;rw [<- IQ] at hd;simp only [opsOf,Ab,Ac,Aa0,Aa1] at|-hd;simp only [S9,A5,seval,PY,PZ,AS,t0,q0,q1,q2,q3,q4,q5,hd,SX,hid];exact ⟨_,rfl⟩
  · rw [hp]
    refine Bh (A4 hR (fun n=>by rw [Ao];simp only [SX,PV.under]) fun bx hid hc=>?_);have t0:=Aa hid hc hR h0;rw [Ao] at t0 |-;have f0:Br L 4 [61,61] i1=false:=hf 0 (by decide);have q0:=Aa hid hc hR (AQ (id:=id) (o:=o) hR BF hT _ f0);have f1:Br L 4 [33,61] i1=false:=hf 1 (by decide);have q1:=Aa hid hc hR (AQ (id:=id) (o:=o) hR BF hT _ f1);have f2:Br L 4 [60] i1=false:=hf 2 (by decide);have q2:=Aa hid hc hR (AQ (id:=id) (o:=o) hR BF hT _ f2);have f3:Br L 4 [62,61] i1=false:=hf 3 (by decide);have q3:=Aa hid hc hR (AQ (id:=id) (o:=o) hR BF hT _ f3);have f4:Br L 4 [62] i1=false:=hf 4 (by decide);have q4:=Aa hid hc hR (AQ (id:=id) (o:=o) hR BF hT _ f4);have f5:Br L 4 [60,61] i1=false:=hf 5 (by decide);have q5:=Aa hid hc hR (AQ (id:=id) (o:=o) hR BF hT _ f5);rw [AF rfl];unfold Ap at |-;rw [<- Cf];rw [<- C3] at t0 q0 q1 q2 q3 q4 q5;simp only [opsOf,Ab,Ac,Aa0,Aa1] at |-;simp only [S9,A5,seval,PY,PZ,AS,t0,q0,q1,q2,q3,q4,q5,SX,hid];exact ⟨_,rfl⟩
end Go.HH
