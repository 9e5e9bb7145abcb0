/-
  What the law needs, packed: PN PO PQ.
-/
import Derived.Test.YthjcaihemgllaaaGreatDoorK38
open Go.Proofs.Tryz renaming f162->Aau,f171->Aaz
open Option renaming getD->Aav
open List renaming getElem?_cons_zero->Aaw,getElem?_cons_succ->Aax,getElem?_toArray->Aay,filterMap_cons->Ab0,filterMap_nil->Ab1,not_mem_nil->Ab2,mem_cons->Ab3
open Nat renaming reduceLT->Ab4,le_of_ble_eq_true->Ab6
open Bool renaming false_eq_true->Ab5
namespace Go.HH
open Go Go.Proofs
set_option maxRecDepth 100000
set_option maxHeartbeats 4000000
set_option linter.unusedSimpArgs false
set_option linter.unusedVariables false
theorem KP:JG CC Aaz (Aaz.body.getD .skip)=true:=by kernel_rfl
theorem KQ:Be CC Aaz (Aaz.body.getD .skip)=false:=by kernel_rfl
theorem J4:CC.P.funcs[171]?=some Aaz:=by kernel_rfl
theorem DH {x:List PV} {b:List PBox} (h:x.length.ble Aaz.ntmps=true):Ad CC 171 x b=CD CC Aaz.results.toList (Lp CC (Aaz.body.getD .skip) ⟨x,b⟩):=CN (fn:=Aaz) (c:=Aaz.body.getD .skip) rfl rfl J4 rfl KQ KP (Ab6 h)
theorem kj (Lc:Code) (hL:Lc=Aa Aaz [1,1,0]) {id:Nat} {L:List Tk} {o:Nat} {RL:PV} (hR:RL.pure=true) (hT:TokOK L) (ho:o<=100):∀ (m:Nat),(∀ k,k < m->FK 178 .prod id L RL k)->∀ (i:Nat) (a:Tr),i < L.length->match pz L m (.sumL a) o i with
 | .ok v j=>∀ (bx:List PBox) (hid:id < bx.length) (hc:DM bx) (e:List PV),getT e 0=.bp id 0->getT e 2=.bp bx.length 0->getT e 3=.bp (bx.length+1) 0->∃ e',Lp CC Lc ⟨e,BX bx id (Ap L i o RL) [.cells 29 [.int .i64 0,.int .i64 0,.int .i64 0,.str [],.int .i64 0,.int .i64 0,.str [],.int .i64 0,.str [],.str [],.nils],.cells 29 (Bp a)]⟩=some (.ret,⟨e',BX bx id (Ap L j o RL) [.cells 29 (Bp v),.cells 29 (Bp v)]⟩)/\getT e' 2=.bp bx.length 0
 | .bad t c=>∃ i' o',∀ (bx:List PBox) (hid:id < bx.length) (hc:DM bx) (e:List PV),getT e 0=.bp id 0->getT e 2=.bp bx.length 0->getT e 3=.bp (bx.length+1) 0->∃ e' ys',Lp CC Lc ⟨e,BX bx id (Ap L i o RL) [.cells 29 [.int .i64 0,.int .i64 0,.int .i64 0,.str [],.int .i64 0,.int .i64 0,.str [],.int .i64 0,.str [],.str [],.nils],.cells 29 (Bp a)]⟩=some (.pan (B5 t c),⟨e',BX bx id (Ap L i' o' RL) ys'⟩)
 | .out=>True:=by
 intro m
 induction m with
 | zero=>intro _ i a hi;trivial
 | succ m ih=>
  intro hu i a hi;rw [pz];cases hk:Bs L 4 [43] i with
  | true=>
   simp only [if_true];have BF:=AO hT hi hk (by decide);have h1:=hu m (by omega) (i+1) o BF ho;cases r1:pz L m .prod o (i+1) with
   | out=>trivial
   | bad t c=>
    rw [r1] at h1;obtain ⟨i',o',h1⟩:=h1;refine ⟨i',o',fun bx hid hc e g0 g2 g3=>?_⟩;have t0:=Ab hid hc hR (Bd (id:=id) (o:=o) hR hi hT _ hk);have t1:=Am hid hc hR h1;have hd:=fun e g0 g3=>Ug (L:=L) hR a hid hc e g0 g3 t1;rw [Ez (Aa Aaz [1,1,0,0]) hL];simp only [<- A8 Wz] at hd;unfold Ap at|-hd;rw [<- Ch];rw [<- C3] at t0;rw [<- I3] at hd;simp only [opsOf,Aa,Ac,Aaz,Aav] at|-hd;simp only [S9,A6,seval,PY,PZ,AS,g0,g2,g3,t0,hd,SX,hid];exact ⟨_,_,rfl⟩
   | ok b i1=>
    rw [r1] at h1;have Gu:=(Hj hT _ _ _ _ _ _ BF r1).2;dsimp only [Au];have key:=ih (fun k hk=>hu k (by omega)) i1 (Bf 11 [a,b]) Gu;cases r2:pz L m (.sumL (Bf 11 [a,b])) o i1 with
    | out=>trivial
    | ok v j=>
     rw [r2] at key;intro bx hid hc e g0 g2 g3;have key:=key bx hid hc;have t0:=Ab hid hc hR (Bd (id:=id) (o:=o) hR hi hT _ hk);have t1:=Ab hid hc hR h1;rw [An] at t1;have hd:=fun e g0 g3=>Nl (L:=L) hR a b hid hc e g0 g3 t1;rw [Ez (Aa Aaz [1,1,0,0]) hL];simp only [<- A8 Wz] at hd;unfold Ap at|-hd key;rw [<- Ch];rw [<- Ch] at key;rw [<- C3] at t0;rw [<- I3] at hd;simp only [opsOf,Aa,Ac,Aaz,Aav] at|-hd key;simp only [S9,A6,seval,PY,PZ,AS,g0,g2,g3,t0,hd,SX,hid];refine key _ ?_ ?_ ?_
     · simp only [S7,A6,seval,g0]
     · simp only [S7,A6,seval,g2]
     · simp only [S7,A6,seval,g3]
    | bad t c=>
     rw [r2] at key;obtain ⟨i',o',key⟩:=key;refine ⟨i',o',fun bx hid hc e g0 g2 g3=>?_⟩;have key:=key bx hid hc;have t0:=Ab hid hc hR (Bd (id:=id) (o:=o) hR hi hT _ hk);have t1:=Ab hid hc hR h1;rw [An] at t1;have hd:=fun e g0 g3=>Nl (L:=L) hR a b hid hc e g0 g3 t1;rw [Ez (Aa Aaz [1,1,0,0]) hL];simp only [<- A8 Wz] at hd;unfold Ap at|-hd key;rw [<- Ch];rw [<- Ch] at key;rw [<- C3] at t0;rw [<- I3] at hd;simp only [opsOf,Aa,Ac,Aaz,Aav] at|-hd key;simp only [S9,A6,seval,PY,PZ,AS,g0,g2,g3,t0,hd,SX,hid];refine key _ ?_ ?_ ?_
     · simp only [S7,A6,seval,g0]
     · simp only [S7,A6,seval,g2]
     · simp only [S7,A6,seval,g3]
  | false=>
   have vt:=hk;clear hk;simp only [Ab5,if_false];cases hk:Bs L 4 [45] i with
   | true=>
    simp only [if_true];have BF:=AO hT hi hk (by decide);have h1:=hu m (by omega) (i+1) o BF ho;cases r1:pz L m .prod o (i+1) with
    | out=>trivial
    | bad t c=>
     rw [r1] at h1;obtain ⟨i',o',h1⟩:=h1;refine ⟨i',o',fun bx hid hc e g0 g2 g3=>?_⟩;have t0:=Ab hid hc hR (AQ (id:=id) (o:=o) hR hi hT _ vt);have t2:=Ab hid hc hR (Bd (id:=id) (o:=o) hR hi hT _ hk);have t1:=Am hid hc hR h1;have hd:=fun e g0 g3=>Uh (L:=L) hR a hid hc e g0 g3 t1;rw [Ez (Aa Aaz [1,1,0,0]) hL];simp only [<- A8 WA] at hd;unfold Ap at|-hd;rw [<- Ch];rw [<- C3] at t0 t2;rw [<- I3] at hd;simp only [opsOf,Aa,Ac,Aaz,Aav] at|-hd;simp only [S9,A6,seval,PY,PZ,AS,g0,g2,g3,t0,t2,hd,SX,hid];exact ⟨_,_,rfl⟩
    | ok b i1=>
     rw [r1] at h1;have Gu:=(Hj hT _ _ _ _ _ _ BF r1).2;dsimp only [Au];have key:=ih (fun k hk=>hu k (by omega)) i1 (Bf 12 [a,b]) Gu;cases r2:pz L m (.sumL (Bf 12 [a,b])) o i1 with
     | out=>trivial
     | ok v j=>
      rw [r2] at key;intro bx hid hc e g0 g2 g3;have key:=key bx hid hc;have t0:=Ab hid hc hR (AQ (id:=id) (o:=o) hR hi hT _ vt);have t2:=Ab hid hc hR (Bd (id:=id) (o:=o) hR hi hT _ hk);have t1:=Ab hid hc hR h1;rw [An] at t1;have hd:=fun e g0 g3=>No (L:=L) hR a b hid hc e g0 g3 t1;rw [Ez (Aa Aaz [1,1,0,0]) hL];simp only [<- A8 WA] at hd;unfold Ap at|-hd key;rw [<- Ch];rw [<- Ch] at key;rw [<- C3] at t0 t2;rw [<- I3] at hd;simp only [opsOf,Aa,Ac,Aaz,Aav] at|-hd key;simp only [S9,A6,seval,PY,PZ,AS,g0,g2,g3,t0,t2,hd,SX,hid];refine key _ ?_ ?_ ?_
      · simp only [S7,A6,seval,g0]
      · simp only [S7,A6,seval,g2]
      · simp only [S7,A6,seval,g3]
     | bad t c=>
      rw [r2] at key;obtain ⟨i',o',key⟩:=key;refine ⟨i',o',fun bx hid hc e g0 g2 g3=>?_⟩;have key:=key bx hid hc;have t0:=Ab hid hc hR (AQ (id:=id) (o:=o) hR hi hT _ vt);have t2:=Ab hid hc hR (Bd (id:=id) (o:=o) hR hi hT _ hk);have t1:=Ab hid hc hR h1;rw [An] at t1;have hd:=fun e g0 g3=>No (L:=L) hR a b hid hc e g0 g3 t1;rw [Ez (Aa Aaz [1,1,0,0]) hL];simp only [<- A8 WA] at hd;unfold Ap at|-hd key;rw [<- Ch];rw [<- Ch] at key;rw [<- C3] at t0 t2;rw [<- I3] at hd;simp only [opsOf,Aa,Ac,Aaz,Aav] at|-hd key;simp only [S9,A6,seval,PY,PZ,AS,g0,g2,g3,t0,t2,hd,SX,hid];refine key _ ?_ ?_ ?_
      · simp only [S7,A6,seval,g0]
      · simp only [S7,A6,seval,g2]
      · simp only [S7,A6,seval,g3]
   | false=>
    simp only [Ab5,if_false];intro bx hid hc e g0 g2 g3;have t0:=Ab hid hc hR (AQ (id:=id) (o:=o) hR hi hT _ vt);have t2:=Ab hid hc hR (AQ (id:=id) (o:=o) hR hi hT _ hk);rw [Ez (Aa Aaz [1,1,0,0]) hL];unfold Ap at |-;rw [<- Ch];rw [<- C3] at t0 t2;simp only [opsOf,Aa,Ac,Aaz,Aav] at |-;simp only [S9,A6,seval,PY,PZ,AS,g0,g2,g3,t0,t2,SX,hid];exact ⟨_,rfl,by simp only [S7,A6,seval,g2]⟩
theorem oE {id:Nat} {L:List Tk} {RL:PV} (hR:RL.pure=true) (hT:TokOK L) (n:Nat) (hu:∀ k,k<=n->FK 178 .prod id L RL k):FK 171 .sum id L RL (n+1):=by
 intro i o hi ho;rw [pz];have h0:=hu n (Nat.le_refl _) i o hi ho;cases r0:pz L n .prod o i with
 | out=>exact AT
 | bad t c=>
  rw [r0] at h0;obtain ⟨i',o',h0⟩:=h0;refine AM ⟨i',o',Ax hR fun bx hid hc=>?_⟩;have t0:=Am hid hc hR h0;rw [DH rfl];unfold Ap at |-;rw [<- Ch];rw [<- C3] at t0;simp only [opsOf,Aa,Ac,Aaz,Aav] at |-;simp only [S9,A6,seval,PY,PZ,AS,t0,SX,hid];exact ⟨_,rfl⟩
 | ok a i1=>
  rw [r0] at h0;dsimp only [Au];have BF:=(Hj hT _ _ _ _ _ _ hi r0).2;have Ag:=kj _ rfl (id:=id) (RL:=RL) hR hT ho n (fun k hk=>hu k (by omega)) i1 a BF;cases r1:pz L n (.sumL a) o i1 with
  | out=>exact AT
  | ok v j=>
   rw [r1] at Ag;refine Bi (A5 hR (fun n=>by rw [An];simp only [SX,PV.under]) fun bx hid hc=>?_);have Ag:=Ag bx hid hc;have t0:=Ab hid hc hR h0;rw [An] at t0;rw [DH rfl];rw [An];unfold Ap at|-Ag;rw [<- Ch];rw [<- Ch] at Ag;rw [<- C3] at t0;simp only [opsOf,Aa,Ac,Aaz,Aav] at|-Ag;simp only [S9,A6,seval,PY,PZ,AS,t0,SX,hid];generalize hE:Tm _ _=z
   have hP:∃ e',z=some (.ret,⟨e',BX bx id (.cells 92 [.sl (Bl L),.int .i64 ((j:Nat):Int),.int .i64 ((o:Nat):Int),RL]) [.cells 29 (Bp v),.cells 29 (Bp v)]⟩)/\getT e' 2=.bp bx.length 0:=by
    rw [<- hE];refine Ag _ ?_ ?_ ?_
    · simp only [S7,A6,seval]
    · simp only [S7,A6,seval]
    · simp only [S7,A6,seval]
   obtain ⟨e',he,g2⟩:=hP;subst he;clear hE Ag;simp only [S9,A6,seval,PY,PZ,AS,SX,g2,hid];exact ⟨_,rfl⟩
  | bad t c=>
   rw [r1] at Ag;obtain ⟨i',o',Ag⟩:=Ag;refine AM ⟨i',o',Ax hR fun bx hid hc=>?_⟩;have Ag:=Ag bx hid hc;have t0:=Ab hid hc hR h0;rw [An] at t0;rw [DH rfl];unfold Ap at|-Ag;rw [<- Ch];rw [<- Ch] at Ag;rw [<- C3] at t0;simp only [opsOf,Aa,Ac,Aaz,Aav] at|-Ag;simp only [S9,A6,seval,PY,PZ,AS,t0,SX,hid];generalize hE:Tm _ _=z
   have hP:∃ e' ys',z=some (.pan (B5 t c),⟨e',BX bx id (.cells 92 [.sl (Bl L),.int .i64 ((i':Nat):Int),.int .i64 ((o':Nat):Int),RL]) ys'⟩):=by
    rw [<- hE];refine Ag _ ?_ ?_ ?_
    · simp only [S7,A6,seval]
    · simp only [S7,A6,seval]
    · simp only [S7,A6,seval]
   obtain ⟨e',ys',he⟩:=hP;subst he;clear hE Ag;simp only [S9,A6,seval,PY,PZ,AS,SX,hid];exact ⟨_,rfl⟩
theorem H7:JG CC Aau (Aau.body.getD .skip)=true:=by kernel_rfl
theorem H8:Be CC Aau (Aau.body.getD .skip)=false:=by kernel_rfl
theorem Hw:CC.P.funcs[162]?=some Aau:=by kernel_rfl
theorem AF {x:List PV} {b:List PBox} (h:x.length.ble Aau.ntmps=true):Ad CC 162 x b=CD CC Aau.results.toList (Lp CC (Aau.body.getD .skip) ⟨x,b⟩):=CN (fn:=Aau) (c:=Aau.body.getD .skip) rfl rfl Hw rfl H8 H7 (Ab6 h)
theorem dz:CM CC (opsOf (Aa Aau [1,1,0,0,1,0,0]))=false:=by kernel_rfl
theorem Np:BO (opsOf (Aa Aau [1,1,0,0,1,0,0]))=[[0,1,2,3,4,5],[1,0,2,3,4,5],[1,2,0,3,4,5]]:=by kernel_rfl
theorem WC {bx:List PBox} {id:Nat} {L:List Tk} {i o:Nat} {RL:PV} (hR:RL.pure=true) (a b:Tr) {j:Nat} (hid:id < bx.length) (hc:DM bx)  (e:List PV) (g0:getT e 0=.bp id 0) (g2:getT e 2=.bp bx.length 0) (g3:getT e 3=.bp (bx.length+1) 0) (t1:∀ ys:List PBox,(ys.all fun x=>x.under (bx.length+ys.length))=true->Ai CC (Ad CC) 171 [.bp id 0] (BX bx id (.cells 92 [.sl (Bl L),.int .i64 ((i:Nat):Int),.int .i64 ((o:Nat):Int),RL]) ys)=some (.ret (.agg (Bp b)),BX bx id (.cells 92 [.sl (Bl L),.int .i64 ((j:Nat):Int),.int .i64 ((o:Nat):Int),RL]) ys)) :
 drawAll CC (Ad CC) (opsOf (Aa Aau [1,1,0,0,1,0,0])) ⟨e,BX bx id (Ap L i o RL) [.cells 29 [.int .i64 0,.int .i64 0,.int .i64 0,.str [],.int .i64 0,.int .i64 0,.str [],.int .i64 0,.str [],.str [],.nils],.cells 29 (Bp a)]⟩=some (.normal,⟨(setT (setT (setT (setT (setT e 9 (.agg (Bp a))) 10 (.bp id 0)) 11 (.agg (Bp b))) 12 (.osl 29 [.agg (Bp a),.agg (Bp b)])) 13 (.agg (Bp (Bf 9 [a,b])))),BX bx id (Ap L j o RL) [.cells 29 (Bp (Bf 9 [a,b])),.cells 29 (Bp a)]⟩):=by
 have hb:=Ud a b;have hn:=Ue 9 a b;refine AV.2 ⟨by rw [Np];simp,fun l hl=>?_⟩;rw [Np] at hl;unfold Ap;rw [<- My];rw [<- C3] at t1 hn;simp only [Ab3,Ab2,or_false] at hl;rcases hl with rfl | rfl | rfl
 all_goals
  simp only [opsOf,Aa,Ac,Aau,Aav,AR,Ab0,Ab1,Aay,Aax,Aaw];simp only [S9,A6,seval,PY,PZ,AS,g0,g2,g3,SX,AY,Bg,t1,hb,hn,hid]
  try simp only [Fu,Ab4]
theorem Ui {bx:List PBox} {id:Nat} {L:List Tk} {i o:Nat} {RL:PV} (hR:RL.pure=true) (a:Tr) {t:Nat} {c:Int} {i' o':Nat} (hid:id < bx.length) (hc:DM bx)  (e:List PV) (g0:getT e 0=.bp id 0) (g2:getT e 2=.bp bx.length 0) (g3:getT e 3=.bp (bx.length+1) 0) (t1:∀ ys:List PBox,(ys.all fun x=>x.under (bx.length+ys.length))=true->Ai CC (Ad CC) 171 [.bp id 0] (BX bx id (.cells 92 [.sl (Bl L),.int .i64 ((i:Nat):Int),.int .i64 ((o:Nat):Int),RL]) ys)=some (.pan (B5 t c),BX bx id (.cells 92 [.sl (Bl L),.int .i64 ((i':Nat):Int),.int .i64 ((o':Nat):Int),RL]) ys)) :
 drawAll CC (Ad CC) (opsOf (Aa Aau [1,1,0,0,1,0,0])) ⟨e,BX bx id (Ap L i o RL) [.cells 29 [.int .i64 0,.int .i64 0,.int .i64 0,.str [],.int .i64 0,.int .i64 0,.str [],.int .i64 0,.str [],.str [],.nils],.cells 29 (Bp a)]⟩=some (.pan (B5 t c),⟨[],BX bx id (Ap L i' o' RL) [.cells 29 [.int .i64 0,.int .i64 0,.int .i64 0,.str [],.int .i64 0,.int .i64 0,.str [],.int .i64 0,.str [],.str [],.nils],.cells 29 (Bp a)]⟩):=by
 refine AV.2 ⟨by rw [Np];simp,fun l hl=>?_⟩;rw [Np] at hl;unfold Ap;rw [<- My];rw [<- C3] at t1;simp only [Ab3,Ab2,or_false] at hl;rcases hl with rfl | rfl | rfl
 all_goals
  simp only [opsOf,Aa,Ac,Aau,Aav,AR,Ab0,Ab1,Aay,Aax,Aaw];simp only [S9,A6,seval,PY,PZ,AS,g0,g2,g3,SX,AY,Bg,t1,hid]
theorem dB:CM CC (opsOf (Aa Aau [1,1,0,0,1,1,1,0,0]))=false:=by kernel_rfl
theorem Nq:BO (opsOf (Aa Aau [1,1,0,0,1,1,1,0,0]))=[[0,1,2,3,4,5,6,7],[1,0,2,3,4,5,6,7],[1,2,0,3,4,5,6,7]]:=by kernel_rfl
theorem WD {bx:List PBox} {id:Nat} {L:List Tk} {i o:Nat} {RL:PV} (hR:RL.pure=true) (a b:Tr) {j:Nat} (hid:id < bx.length) (hc:DM bx)  (e:List PV) (g0:getT e 0=.bp id 0) (g2:getT e 2=.bp bx.length 0) (g3:getT e 3=.bp (bx.length+1) 0) (t1:∀ ys:List PBox,(ys.all fun x=>x.under (bx.length+ys.length))=true->Ai CC (Ad CC) 171 [.bp id 0] (BX bx id (.cells 92 [.sl (Bl L),.int .i64 ((i:Nat):Int),.int .i64 ((o:Nat):Int),RL]) ys)=some (.ret (.agg (Bp b)),BX bx id (.cells 92 [.sl (Bl L),.int .i64 ((j:Nat):Int),.int .i64 ((o:Nat):Int),RL]) ys)) :
 drawAll CC (Ad CC) (opsOf (Aa Aau [1,1,0,0,1,1,1,0,0])) ⟨e,BX bx id (Ap L i o RL) [.cells 29 [.int .i64 0,.int .i64 0,.int .i64 0,.str [],.int .i64 0,.int .i64 0,.str [],.int .i64 0,.str [],.str [],.nils],.cells 29 (Bp a)]⟩=some (.normal,⟨(setT (setT (setT (setT (setT (setT (setT e 17 (.agg (Bp a))) 18 (.bp id 0)) 19 (.agg (Bp b))) 20 (.osl 29 [.agg (Bp a),.agg (Bp b)])) 21 (.agg (Bp (Bf 9 [a,b])))) 22 (.osl 29 [.agg (Bp (Bf 9 [a,b]))])) 23 (.agg (Bp (Bf 6 [Bf 9 [a,b]])))),BX bx id (Ap L j o RL) [.cells 29 (Bp (Bf 6 [Bf 9 [a,b]])),.cells 29 (Bp a)]⟩):=by
 have hb:=Ud a b;have hn:=Ue 9 a b;have rQ:=gp (Bf 9 [a,b]);have nB:=oD 6 (Bf 9 [a,b]);refine AV.2 ⟨by rw [Nq];simp,fun l hl=>?_⟩;rw [Nq] at hl;unfold Ap;rw [<- My];rw [<- C3] at t1 hn nB;simp only [Ab3,Ab2,or_false] at hl;rcases hl with rfl | rfl | rfl
 all_goals
  simp only [opsOf,Aa,Ac,Aau,Aav,AR,Ab0,Ab1,Aay,Aax,Aaw];simp only [S9,A6,seval,PY,PZ,AS,g0,g2,g3,SX,AY,Bg,t1,hb,hn,rQ,nB,hid]
  try simp only [Fu,Ab4]
theorem Uj {bx:List PBox} {id:Nat} {L:List Tk} {i o:Nat} {RL:PV} (hR:RL.pure=true) (a:Tr) {t:Nat} {c:Int} {i' o':Nat} (hid:id < bx.length) (hc:DM bx)  (e:List PV) (g0:getT e 0=.bp id 0) (g2:getT e 2=.bp bx.length 0) (g3:getT e 3=.bp (bx.length+1) 0) (t1:∀ ys:List PBox,(ys.all fun x=>x.under (bx.length+ys.length))=true->Ai CC (Ad CC) 171 [.bp id 0] (BX bx id (.cells 92 [.sl (Bl L),.int .i64 ((i:Nat):Int),.int .i64 ((o:Nat):Int),RL]) ys)=some (.pan (B5 t c),BX bx id (.cells 92 [.sl (Bl L),.int .i64 ((i':Nat):Int),.int .i64 ((o':Nat):Int),RL]) ys)) :
 drawAll CC (Ad CC) (opsOf (Aa Aau [1,1,0,0,1,1,1,0,0])) ⟨e,BX bx id (Ap L i o RL) [.cells 29 [.int .i64 0,.int .i64 0,.int .i64 0,.str [],.int .i64 0,.int .i64 0,.str [],.int .i64 0,.str [],.str [],.nils],.cells 29 (Bp a)]⟩=some (.pan (B5 t c),⟨[],BX bx id (Ap L i' o' RL) [.cells 29 [.int .i64 0,.int .i64 0,.int .i64 0,.str [],.int .i64 0,.int .i64 0,.str [],.int .i64 0,.str [],.str [],.nils],.cells 29 (Bp a)]⟩):=by
 refine AV.2 ⟨by rw [Nq];simp,fun l hl=>?_⟩;rw [Nq] at hl;unfold Ap;rw [<- My];rw [<- C3] at t1;simp only [Ab3,Ab2,or_false] at hl;rcases hl with rfl | rfl | rfl
 all_goals
  simp only [opsOf,Aa,Ac,Aau,Aav,AR,Ab0,Ab1,Aay,Aax,Aaw];simp only [S9,A6,seval,PY,PZ,AS,g0,g2,g3,SX,AY,Bg,t1,hid]
theorem dC:CM CC (opsOf (Aa Aau [1,1,0,0,1,1,1,1,1,0,0]))=false:=by kernel_rfl
theorem Nr:BO (opsOf (Aa Aau [1,1,0,0,1,1,1,1,1,0,0]))=[[0,1,2,3,4,5],[1,0,2,3,4,5],[1,2,0,3,4,5]]:=by kernel_rfl
theorem WE {bx:List PBox} {id:Nat} {L:List Tk} {i o:Nat} {RL:PV} (hR:RL.pure=true) (a b:Tr) {j:Nat} (hid:id < bx.length) (hc:DM bx)  (e:List PV) (g0:getT e 0=.bp id 0) (g2:getT e 2=.bp bx.length 0) (g3:getT e 3=.bp (bx.length+1) 0) (t1:∀ ys:List PBox,(ys.all fun x=>x.under (bx.length+ys.length))=true->Ai CC (Ad CC) 171 [.bp id 0] (BX bx id (.cells 92 [.sl (Bl L),.int .i64 ((i:Nat):Int),.int .i64 ((o:Nat):Int),RL]) ys)=some (.ret (.agg (Bp b)),BX bx id (.cells 92 [.sl (Bl L),.int .i64 ((j:Nat):Int),.int .i64 ((o:Nat):Int),RL]) ys)) :
 drawAll CC (Ad CC) (opsOf (Aa Aau [1,1,0,0,1,1,1,1,1,0,0])) ⟨e,BX bx id (Ap L i o RL) [.cells 29 [.int .i64 0,.int .i64 0,.int .i64 0,.str [],.int .i64 0,.int .i64 0,.str [],.int .i64 0,.str [],.str [],.nils],.cells 29 (Bp a)]⟩=some (.normal,⟨(setT (setT (setT (setT (setT e 27 (.agg (Bp a))) 28 (.bp id 0)) 29 (.agg (Bp b))) 30 (.osl 29 [.agg (Bp a),.agg (Bp b)])) 31 (.agg (Bp (Bf 10 [a,b])))),BX bx id (Ap L j o RL) [.cells 29 (Bp (Bf 10 [a,b])),.cells 29 (Bp a)]⟩):=by
 have hb:=Ud a b;have hn:=Ue 10 a b;refine AV.2 ⟨by rw [Nr];simp,fun l hl=>?_⟩;rw [Nr] at hl;unfold Ap;rw [<- My];rw [<- C3] at t1 hn;simp only [Ab3,Ab2,or_false] at hl;rcases hl with rfl | rfl | rfl
 all_goals
  simp only [opsOf,Aa,Ac,Aau,Aav,AR,Ab0,Ab1,Aay,Aax,Aaw];simp only [S9,A6,seval,PY,PZ,AS,g0,g2,g3,SX,AY,Bg,t1,hb,hn,hid]
  try simp only [Fu,Ab4]
theorem Uk {bx:List PBox} {id:Nat} {L:List Tk} {i o:Nat} {RL:PV} (hR:RL.pure=true) (a:Tr) {t:Nat} {c:Int} {i' o':Nat} (hid:id < bx.length) (hc:DM bx)  (e:List PV) (g0:getT e 0=.bp id 0) (g2:getT e 2=.bp bx.length 0) (g3:getT e 3=.bp (bx.length+1) 0) (t1:∀ ys:List PBox,(ys.all fun x=>x.under (bx.length+ys.length))=true->Ai CC (Ad CC) 171 [.bp id 0] (BX bx id (.cells 92 [.sl (Bl L),.int .i64 ((i:Nat):Int),.int .i64 ((o:Nat):Int),RL]) ys)=some (.pan (B5 t c),BX bx id (.cells 92 [.sl (Bl L),.int .i64 ((i':Nat):Int),.int .i64 ((o':Nat):Int),RL]) ys)) :
 drawAll CC (Ad CC) (opsOf (Aa Aau [1,1,0,0,1,1,1,1,1,0,0])) ⟨e,BX bx id (Ap L i o RL) [.cells 29 [.int .i64 0,.int .i64 0,.int .i64 0,.str [],.int .i64 0,.int .i64 0,.str [],.int .i64 0,.str [],.str [],.nils],.cells 29 (Bp a)]⟩=some (.pan (B5 t c),⟨[],BX bx id (Ap L i' o' RL) [.cells 29 [.int .i64 0,.int .i64 0,.int .i64 0,.str [],.int .i64 0,.int .i64 0,.str [],.int .i64 0,.str [],.str [],.nils],.cells 29 (Bp a)]⟩):=by
 refine AV.2 ⟨by rw [Nr];simp,fun l hl=>?_⟩;rw [Nr] at hl;unfold Ap;rw [<- My];rw [<- C3] at t1;simp only [Ab3,Ab2,or_false] at hl;rcases hl with rfl | rfl | rfl
 all_goals
  simp only [opsOf,Aa,Ac,Aau,Aav,AR,Ab0,Ab1,Aay,Aax,Aaw];simp only [S9,A6,seval,PY,PZ,AS,g0,g2,g3,SX,AY,Bg,t1,hid]
theorem dD:CM CC (opsOf (Aa Aau [1,1,0,0,1,1,1,1,1,1,1,0,0]))=false:=by kernel_rfl
theorem Ns:BO (opsOf (Aa Aau [1,1,0,0,1,1,1,1,1,1,1,0,0]))=[[0,1,2,3,4,5,6,7],[1,0,2,3,4,5,6,7],[1,2,0,3,4,5,6,7]]:=by kernel_rfl
theorem WG {bx:List PBox} {id:Nat} {L:List Tk} {i o:Nat} {RL:PV} (hR:RL.pure=true) (a b:Tr) {j:Nat} (hid:id < bx.length) (hc:DM bx)  (e:List PV) (g0:getT e 0=.bp id 0) (g2:getT e 2=.bp bx.length 0) (g3:getT e 3=.bp (bx.length+1) 0) (t1:∀ ys:List PBox,(ys.all fun x=>x.under (bx.length+ys.length))=true->Ai CC (Ad CC) 171 [.bp id 0] (BX bx id (.cells 92 [.sl (Bl L),.int .i64 ((i:Nat):Int),.int .i64 ((o:Nat):Int),RL]) ys)=some (.ret (.agg (Bp b)),BX bx id (.cells 92 [.sl (Bl L),.int .i64 ((j:Nat):Int),.int .i64 ((o:Nat):Int),RL]) ys)) :
 drawAll CC (Ad CC) (opsOf (Aa Aau [1,1,0,0,1,1,1,1,1,1,1,0,0])) ⟨e,BX bx id (Ap L i o RL) [.cells 29 [.int .i64 0,.int .i64 0,.int .i64 0,.str [],.int .i64 0,.int .i64 0,.str [],.int .i64 0,.str [],.str [],.nils],.cells 29 (Bp a)]⟩=some (.normal,⟨(setT (setT (setT (setT (setT (setT (setT e 35 (.agg (Bp a))) 36 (.bp id 0)) 37 (.agg (Bp b))) 38 (.osl 29 [.agg (Bp a),.agg (Bp b)])) 39 (.agg (Bp (Bf 10 [a,b])))) 40 (.osl 29 [.agg (Bp (Bf 10 [a,b]))])) 41 (.agg (Bp (Bf 6 [Bf 10 [a,b]])))),BX bx id (Ap L j o RL) [.cells 29 (Bp (Bf 6 [Bf 10 [a,b]])),.cells 29 (Bp a)]⟩):=by
 have hb:=Ud a b;have hn:=Ue 10 a b;have rQ:=gp (Bf 10 [a,b]);have nB:=oD 6 (Bf 10 [a,b]);refine AV.2 ⟨by rw [Ns];simp,fun l hl=>?_⟩;rw [Ns] at hl;unfold Ap;rw [<- My];rw [<- C3] at t1 hn nB;simp only [Ab3,Ab2,or_false] at hl;rcases hl with rfl | rfl | rfl
 all_goals
  simp only [opsOf,Aa,Ac,Aau,Aav,AR,Ab0,Ab1,Aay,Aax,Aaw];simp only [S9,A6,seval,PY,PZ,AS,g0,g2,g3,SX,AY,Bg,t1,hb,hn,rQ,nB,hid]
  try simp only [Fu,Ab4]
theorem Ul {bx:List PBox} {id:Nat} {L:List Tk} {i o:Nat} {RL:PV} (hR:RL.pure=true) (a:Tr) {t:Nat} {c:Int} {i' o':Nat} (hid:id < bx.length) (hc:DM bx)  (e:List PV) (g0:getT e 0=.bp id 0) (g2:getT e 2=.bp bx.length 0) (g3:getT e 3=.bp (bx.length+1) 0) (t1:∀ ys:List PBox,(ys.all fun x=>x.under (bx.length+ys.length))=true->Ai CC (Ad CC) 171 [.bp id 0] (BX bx id (.cells 92 [.sl (Bl L),.int .i64 ((i:Nat):Int),.int .i64 ((o:Nat):Int),RL]) ys)=some (.pan (B5 t c),BX bx id (.cells 92 [.sl (Bl L),.int .i64 ((i':Nat):Int),.int .i64 ((o':Nat):Int),RL]) ys)) :
 drawAll CC (Ad CC) (opsOf (Aa Aau [1,1,0,0,1,1,1,1,1,1,1,0,0])) ⟨e,BX bx id (Ap L i o RL) [.cells 29 [.int .i64 0,.int .i64 0,.int .i64 0,.str [],.int .i64 0,.int .i64 0,.str [],.int .i64 0,.str [],.str [],.nils],.cells 29 (Bp a)]⟩=some (.pan (B5 t c),⟨[],BX bx id (Ap L i' o' RL) [.cells 29 [.int .i64 0,.int .i64 0,.int .i64 0,.str [],.int .i64 0,.int .i64 0,.str [],.int .i64 0,.str [],.str [],.nils],.cells 29 (Bp a)]⟩):=by
 refine AV.2 ⟨by rw [Ns];simp,fun l hl=>?_⟩;rw [Ns] at hl;unfold Ap;rw [<- My];rw [<- C3] at t1;simp only [Ab3,Ab2,or_false] at hl;rcases hl with rfl | rfl | rfl
 all_goals
  simp only [opsOf,Aa,Ac,Aau,Aav,AR,Ab0,Ab1,Aay,Aax,Aaw];simp only [S9,A6,seval,PY,PZ,AS,g0,g2,g3,SX,AY,Bg,t1,hid]
theorem dE:CM CC (opsOf (Aa Aau [1,1,0,0,1,1,1,1,1,1,1,1,1,0,0]))=false:=by kernel_rfl
theorem Nt:BO (opsOf (Aa Aau [1,1,0,0,1,1,1,1,1,1,1,1,1,0,0]))=[[0,1,2,3,4,5],[0,2,1,3,4,5],[2,0,1,3,4,5]]:=by kernel_rfl
theorem WH {bx:List PBox} {id:Nat} {L:List Tk} {i o:Nat} {RL:PV} (hR:RL.pure=true) (a b:Tr) {j:Nat} (hid:id < bx.length) (hc:DM bx)  (e:List PV) (g0:getT e 0=.bp id 0) (g2:getT e 2=.bp bx.length 0) (g3:getT e 3=.bp (bx.length+1) 0) (t1:∀ ys:List PBox,(ys.all fun x=>x.under (bx.length+ys.length))=true->Ai CC (Ad CC) 171 [.bp id 0] (BX bx id (.cells 92 [.sl (Bl L),.int .i64 ((i:Nat):Int),.int .i64 ((o:Nat):Int),RL]) ys)=some (.ret (.agg (Bp b)),BX bx id (.cells 92 [.sl (Bl L),.int .i64 ((j:Nat):Int),.int .i64 ((o:Nat):Int),RL]) ys)) :
 drawAll CC (Ad CC) (opsOf (Aa Aau [1,1,0,0,1,1,1,1,1,1,1,1,1,0,0])) ⟨e,BX bx id (Ap L i o RL) [.cells 29 [.int .i64 0,.int .i64 0,.int .i64 0,.str [],.int .i64 0,.int .i64 0,.str [],.int .i64 0,.str [],.str [],.nils],.cells 29 (Bp a)]⟩=some (.normal,⟨(setT (setT (setT (setT (setT e 45 (.bp id 0)) 46 (.agg (Bp b))) 47 (.agg (Bp a))) 48 (.osl 29 [.agg (Bp b),.agg (Bp a)])) 49 (.agg (Bp (Bf 10 [b,a])))),BX bx id (Ap L j o RL) [.cells 29 (Bp (Bf 10 [b,a])),.cells 29 (Bp a)]⟩):=by
 have hb:=Ud b a;have hn:=Ue 10 b a;refine AV.2 ⟨by rw [Nt];simp,fun l hl=>?_⟩;rw [Nt] at hl;unfold Ap;rw [<- My];rw [<- C3] at t1 hn;simp only [Ab3,Ab2,or_false] at hl;rcases hl with rfl | rfl | rfl
 all_goals
  simp only [opsOf,Aa,Ac,Aau,Aav,AR,Ab0,Ab1,Aay,Aax,Aaw];simp only [S9,A6,seval,PY,PZ,AS,g0,g2,g3,SX,AY,Bg,t1,hb,hn,hid]
  try simp only [Fu,Ab4]
  try rw [Av _ 47 45 _ _ (by decide)]
  try rw [Av _ 47 46 _ _ (by decide)]
theorem Um {bx:List PBox} {id:Nat} {L:List Tk} {i o:Nat} {RL:PV} (hR:RL.pure=true) (a:Tr) {t:Nat} {c:Int} {i' o':Nat} (hid:id < bx.length) (hc:DM bx)  (e:List PV) (g0:getT e 0=.bp id 0) (g2:getT e 2=.bp bx.length 0) (g3:getT e 3=.bp (bx.length+1) 0) (t1:∀ ys:List PBox,(ys.all fun x=>x.under (bx.length+ys.length))=true->Ai CC (Ad CC) 171 [.bp id 0] (BX bx id (.cells 92 [.sl (Bl L),.int .i64 ((i:Nat):Int),.int .i64 ((o:Nat):Int),RL]) ys)=some (.pan (B5 t c),BX bx id (.cells 92 [.sl (Bl L),.int .i64 ((i':Nat):Int),.int .i64 ((o':Nat):Int),RL]) ys)) :
 drawAll CC (Ad CC) (opsOf (Aa Aau [1,1,0,0,1,1,1,1,1,1,1,1,1,0,0])) ⟨e,BX bx id (Ap L i o RL) [.cells 29 [.int .i64 0,.int .i64 0,.int .i64 0,.str [],.int .i64 0,.int .i64 0,.str [],.int .i64 0,.str [],.str [],.nils],.cells 29 (Bp a)]⟩=some (.pan (B5 t c),⟨[],BX bx id (Ap L i' o' RL) [.cells 29 [.int .i64 0,.int .i64 0,.int .i64 0,.str [],.int .i64 0,.int .i64 0,.str [],.int .i64 0,.str [],.str [],.nils],.cells 29 (Bp a)]⟩):=by
 refine AV.2 ⟨by rw [Nt];simp,fun l hl=>?_⟩;rw [Nt] at hl;unfold Ap;rw [<- My];rw [<- C3] at t1;simp only [Ab3,Ab2,or_false] at hl;rcases hl with rfl | rfl | rfl
 all_goals
  simp only [opsOf,Aa,Ac,Aau,Aav,AR,Ab0,Ab1,Aay,Aax,Aaw];simp only [S9,A6,seval,PY,PZ,AS,g0,g2,g3,SX,AY,Bg,t1,hid]
theorem dF:CM CC (opsOf (Aa Aau [1,1,0,0,1,1,1,1,1,1,1,1,1,1,1,0,0]))=false:=by kernel_rfl
theorem Nu:BO (opsOf (Aa Aau [1,1,0,0,1,1,1,1,1,1,1,1,1,1,1,0,0]))=[[0,1,2,3,4,5,6,7],[0,2,1,3,4,5,6,7],[2,0,1,3,4,5,6,7]]:=by kernel_rfl
theorem WI {bx:List PBox} {id:Nat} {L:List Tk} {i o:Nat} {RL:PV} (hR:RL.pure=true) (a b:Tr) {j:Nat} (hid:id < bx.length) (hc:DM bx)  (e:List PV) (g0:getT e 0=.bp id 0) (g2:getT e 2=.bp bx.length 0) (g3:getT e 3=.bp (bx.length+1) 0) (t1:∀ ys:List PBox,(ys.all fun x=>x.under (bx.length+ys.length))=true->Ai CC (Ad CC) 171 [.bp id 0] (BX bx id (.cells 92 [.sl (Bl L),.int .i64 ((i:Nat):Int),.int .i64 ((o:Nat):Int),RL]) ys)=some (.ret (.agg (Bp b)),BX bx id (.cells 92 [.sl (Bl L),.int .i64 ((j:Nat):Int),.int .i64 ((o:Nat):Int),RL]) ys)) :
 drawAll CC (Ad CC) (opsOf (Aa Aau [1,1,0,0,1,1,1,1,1,1,1,1,1,1,1,0,0])) ⟨e,BX bx id (Ap L i o RL) [.cells 29 [.int .i64 0,.int .i64 0,.int .i64 0,.str [],.int .i64 0,.int .i64 0,.str [],.int .i64 0,.str [],.str [],.nils],.cells 29 (Bp a)]⟩=some (.normal,⟨(setT (setT (setT (setT (setT (setT (setT e 53 (.bp id 0)) 54 (.agg (Bp b))) 55 (.agg (Bp a))) 56 (.osl 29 [.agg (Bp b),.agg (Bp a)])) 57 (.agg (Bp (Bf 10 [b,a])))) 58 (.osl 29 [.agg (Bp (Bf 10 [b,a]))])) 59 (.agg (Bp (Bf 6 [Bf 10 [b,a]])))),BX bx id (Ap L j o RL) [.cells 29 (Bp (Bf 6 [Bf 10 [b,a]])),.cells 29 (Bp a)]⟩):=by
 have hb:=Ud b a;have hn:=Ue 10 b a;have rQ:=gp (Bf 10 [b,a]);have nB:=oD 6 (Bf 10 [b,a]);refine AV.2 ⟨by rw [Nu];simp,fun l hl=>?_⟩;rw [Nu] at hl;unfold Ap;rw [<- My];rw [<- C3] at t1 hn nB;simp only [Ab3,Ab2,or_false] at hl;rcases hl with rfl | rfl | rfl
 all_goals
  simp only [opsOf,Aa,Ac,Aau,Aav,AR,Ab0,Ab1,Aay,Aax,Aaw];simp only [S9,A6,seval,PY,PZ,AS,g0,g2,g3,SX,AY,Bg,t1,hb,hn,rQ,nB,hid]
  try simp only [Fu,Ab4]
  try rw [Av _ 55 53 _ _ (by decide)]
  try rw [Av _ 55 54 _ _ (by decide)]
theorem Un {bx:List PBox} {id:Nat} {L:List Tk} {i o:Nat} {RL:PV} (hR:RL.pure=true) (a:Tr) {t:Nat} {c:Int} {i' o':Nat} (hid:id < bx.length) (hc:DM bx)  (e:List PV) (g0:getT e 0=.bp id 0) (g2:getT e 2=.bp bx.length 0) (g3:getT e 3=.bp (bx.length+1) 0) (t1:∀ ys:List PBox,(ys.all fun x=>x.under (bx.length+ys.length))=true->Ai CC (Ad CC) 171 [.bp id 0] (BX bx id (.cells 92 [.sl (Bl L),.int .i64 ((i:Nat):Int),.int .i64 ((o:Nat):Int),RL]) ys)=some (.pan (B5 t c),BX bx id (.cells 92 [.sl (Bl L),.int .i64 ((i':Nat):Int),.int .i64 ((o':Nat):Int),RL]) ys)) :
 drawAll CC (Ad CC) (opsOf (Aa Aau [1,1,0,0,1,1,1,1,1,1,1,1,1,1,1,0,0])) ⟨e,BX bx id (Ap L i o RL) [.cells 29 [.int .i64 0,.int .i64 0,.int .i64 0,.str [],.int .i64 0,.int .i64 0,.str [],.int .i64 0,.str [],.str [],.nils],.cells 29 (Bp a)]⟩=some (.pan (B5 t c),⟨[],BX bx id (Ap L i' o' RL) [.cells 29 [.int .i64 0,.int .i64 0,.int .i64 0,.str [],.int .i64 0,.int .i64 0,.str [],.int .i64 0,.str [],.str [],.nils],.cells 29 (Bp a)]⟩):=by
 refine AV.2 ⟨by rw [Nu];simp,fun l hl=>?_⟩;rw [Nu] at hl;unfold Ap;rw [<- My];rw [<- C3] at t1;simp only [Ab3,Ab2,or_false] at hl;rcases hl with rfl | rfl | rfl
 all_goals
  simp only [opsOf,Aa,Ac,Aau,Aav,AR,Ab0,Ab1,Aay,Aax,Aaw];simp only [S9,A6,seval,PY,PZ,AS,g0,g2,g3,SX,AY,Bg,t1,hid]
theorem gr (L:List Tk) (i:Nat):(∃ k,C0 L 4 i GG 0=some k/\k < 6/\Bs L 4 (GG.getD k []) i=true/\∀ k',k' < k->Bs L 4 (GG.getD k' []) i=false)\/(C0 L 4 i GG 0=none/\∀ k',k' < 6->Bs L 4 (GG.getD k' []) i=false):=by
 have gen:∀ (l:List (List UInt8)) (n:Nat),(∃ k,C0 L 4 i l n=some (n+k)/\k < l.length/\Bs L 4 (l.getD k []) i=true/\∀ k',k' < k->Bs L 4 (l.getD k' []) i=false)\/(C0 L 4 i l n=none/\∀ k',k' < l.length->Bs L 4 (l.getD k' []) i=false):=by
  intro l
  induction l with
  | nil=>intro n;exact .inr ⟨rfl,fun k' h=>by simp at h⟩
  | cons w r ih=>
   intro n;unfold C0;cases hw:Bs L 4 w i with
   | true=>exact .inl ⟨0,rfl,by simp,hw,fun k' h=>by omega⟩
   | false=>
    simp only [Ab5,if_false];rcases ih (n+1) with ⟨k,h1,h2,h3,h4⟩ | ⟨h1,h2⟩
    · refine .inl ⟨k+1,by rw [h1];congr 1;omega,by simp;omega,h3,fun k' rW=>?_⟩
      cases k' with
      | zero=>exact hw
      | succ k'=>exact h4 k' (by omega)
    · refine .inr ⟨h1,fun k' rW=>?_⟩
      cases k' with
      | zero=>exact hw
      | succ k'=>exact h2 k' (by simpa using rW)
 rcases gen GG 0 with ⟨k,h1,h2,h3,h4⟩ | ⟨h1,h2⟩
 · exact .inl ⟨k,by rw [h1,Nat.zero_add],h2,h3,h4⟩
 · exact .inr ⟨h1,h2⟩
theorem oF {id:Nat} {L:List Tk} {RL:PV} (hR:RL.pure=true) (hT:TokOK L) (n:Nat) (hu:FK 171 .sum id L RL n):FK 162 .cmp id L RL (n+1):=by
 intro i o hi ho;rw [pz];have h0:=hu i o hi ho;cases r0:pz L n .sum o i with
 | out=>exact AT
 | bad t c=>
  rw [r0] at h0;obtain ⟨i',o',h0⟩:=h0;refine AM ⟨i',o',Ax hR fun bx hid hc=>?_⟩;have t0:=Am hid hc hR h0;rw [AF rfl];unfold Ap at |-;rw [<- Ch];rw [<- C3] at t0;simp only [opsOf,Aa,Ac,Aau,Aav] at |-;simp only [S9,A6,seval,PY,PZ,AS,t0,SX,hid];exact ⟨_,rfl⟩
 | ok a i1=>
  rw [r0] at h0;dsimp only [Au];have BF:=(Hj hT _ _ _ _ _ _ hi r0).2;rcases gr L i1 with ⟨k,hp,hk6,ht,hf⟩ | ⟨hp,hf⟩
  · rw [hp]
    dsimp only;have Gu:=AO hT BF ht (by decide);have h1:=hu (i1+1) o Gu ho;have Tp:k=0\/k=1\/k=2\/k=3\/k=4\/k=5:=by omega
    cases r1:pz L n .sum o (i1+1) with
    | out=>exact AT
    | bad t c=>
     rw [r1] at h1;obtain ⟨i',o',h1⟩:=h1;rcases Tp with rfl | rfl | rfl | rfl | rfl | rfl
     · refine AM ⟨i',o',Ax hR fun bx hid hc=>?_⟩
       have t0:=Ab hid hc hR h0;rw [An] at t0;have t1:=Am hid hc hR h1;have f0:Bs L 4 [61,61] i1=true:=ht;have q0:=Ab hid hc hR (Bd (id:=id) (o:=o) hR BF hT _ f0);have hd:=fun e g0 g2 g3=>Ui (L:=L) hR a hid hc e g0 g2 g3 t1;rw [AF rfl];simp only [<- A8 dz] at hd;unfold Ap at|-hd;rw [<- Ch];rw [<- C3] at t0 q0;rw [<- I3] at hd;simp only [opsOf,Aa,Ac,Aau,Aav] at|-hd;simp only [S9,A6,seval,PY,PZ,AS,t0,q0,hd,SX,hid];exact ⟨_,rfl⟩
     · refine AM ⟨i',o',Ax hR fun bx hid hc=>?_⟩
       have t0:=Ab hid hc hR h0;rw [An] at t0;have t1:=Am hid hc hR h1;have f0:Bs L 4 [61,61] i1=false:=hf 0 (by decide);have q0:=Ab hid hc hR (AQ (id:=id) (o:=o) hR BF hT _ f0);have f1:Bs L 4 [33,61] i1=true:=ht;have q1:=Ab hid hc hR (Bd (id:=id) (o:=o) hR BF hT _ f1);have hd:=fun e g0 g2 g3=>Uj (L:=L) hR a hid hc e g0 g2 g3 t1;rw [AF rfl];simp only [<- A8 dB] at hd;unfold Ap at|-hd;rw [<- Ch];rw [<- C3] at t0 q0 q1;rw [<- I3] at hd;simp only [opsOf,Aa,Ac,Aau,Aav] at|-hd;simp only [S9,A6,seval,PY,PZ,AS,t0,q0,q1,hd,SX,hid];exact ⟨_,rfl⟩
     · refine AM ⟨i',o',Ax hR fun bx hid hc=>?_⟩
       have t0:=Ab hid hc hR h0;rw [An] at t0;have t1:=Am hid hc hR h1;have f0:Bs L 4 [61,61] i1=false:=hf 0 (by decide);have q0:=Ab hid hc hR (AQ (id:=id) (o:=o) hR BF hT _ f0);have f1:Bs L 4 [33,61] i1=false:=hf 1 (by decide);have q1:=Ab hid hc hR (AQ (id:=id) (o:=o) hR BF hT _ f1);have f2:Bs L 4 [60] i1=true:=ht;have q2:=Ab hid hc hR (Bd (id:=id) (o:=o) hR BF hT _ f2);have hd:=fun e g0 g2 g3=>Uk (L:=L) hR a hid hc e g0 g2 g3 t1;rw [AF rfl];simp only [<- A8 dC] at hd;unfold Ap at|-hd;rw [<- Ch];rw [<- C3] at t0 q0 q1 q2;rw [<- I3] at hd;simp only [opsOf,Aa,Ac,Aau,Aav] at|-hd;simp only [S9,A6,seval,PY,PZ,AS,t0,q0,q1,q2,hd,SX,hid];exact ⟨_,rfl⟩
     · refine AM ⟨i',o',Ax hR fun bx hid hc=>?_⟩
       have t0:=Ab hid hc hR h0;rw [An] at t0;have t1:=Am hid hc hR h1;have f0:Bs L 4 [61,61] i1=false:=hf 0 (by decide);have q0:=Ab hid hc hR (AQ (id:=id) (o:=o) hR BF hT _ f0);have f1:Bs L 4 [33,61] i1=false:=hf 1 (by decide);have q1:=Ab hid hc hR (AQ (id:=id) (o:=o) hR BF hT _ f1);have f2:Bs L 4 [60] i1=false:=hf 2 (by decide);have q2:=Ab hid hc hR (AQ (id:=id) (o:=o) hR BF hT _ f2);have f3:Bs L 4 [62,61] i1=true:=ht;have q3:=Ab hid hc hR (Bd (id:=id) (o:=o) hR BF hT _ f3);have hd:=fun e g0 g2 g3=>Ul (L:=L) hR a hid hc e g0 g2 g3 t1;rw [AF rfl];simp only [<- A8 dD] at hd;unfold Ap at|-hd;rw [<- Ch];rw [<- C3] at t0 q0 q1 q2 q3;rw [<- I3] at hd;simp only [opsOf,Aa,Ac,Aau,Aav] at|-hd;simp only [S9,A6,seval,PY,PZ,AS,t0,q0,q1,q2,q3,hd,SX,hid];exact ⟨_,rfl⟩
     · refine AM ⟨i',o',Ax hR fun bx hid hc=>?_⟩
       have t0:=Ab hid hc hR h0;rw [An] at t0;have t1:=Am hid hc hR h1;have f0:Bs L 4 [61,61] i1=false:=hf 0 (by decide);have q0:=Ab hid hc hR (AQ (id:=id) (o:=o) hR BF hT _ f0);have f1:Bs L 4 [33,61] i1=false:=hf 1 (by decide);have q1:=Ab hid hc hR (AQ (id:=id) (o:=o) hR BF hT _ f1);have f2:Bs L 4 [60] i1=false:=hf 2 (by decide);have q2:=Ab hid hc hR (AQ (id:=id) (o:=o) hR BF hT _ f2);have f3:Bs L 4 [62,61] i1=false:=hf 3 (by decide);have q3:=Ab hid hc hR (AQ (id:=id) (o:=o) hR BF hT _ f3);have f4:Bs L 4 [62] i1=true:=ht;have q4:=Ab hid hc hR (Bd (id:=id) (o:=o) hR BF hT _ f4);have hd:=fun e g0 g2 g3=>Um (L:=L) hR a hid hc e g0 g2 g3 t1;rw [AF rfl];simp only [<- A8 dE] at hd;unfold Ap at|-hd;rw [<- Ch];rw [<- C3] at t0 q0 q1 q2 q3 q4;rw [<- I3] at hd;simp only [opsOf,Aa,Ac,Aau,Aav] at|-hd;simp only [S9,A6,seval,PY,PZ,AS,t0,q0,q1,q2,q3,q4,hd,SX,hid];exact ⟨_,rfl⟩
     · refine AM ⟨i',o',Ax hR fun bx hid hc=>?_⟩
       have t0:=Ab hid hc hR h0;rw [An] at t0;have t1:=Am hid hc hR h1;have f0:Bs L 4 [61,61] i1=false:=hf 0 (by decide);have q0:=Ab hid hc hR (AQ (id:=id) (o:=o) hR BF hT _ f0);have f1:Bs L 4 [33,61] i1=false:=hf 1 (by decide);have q1:=Ab hid hc hR (AQ (id:=id) (o:=o) hR BF hT _ f1);have f2:Bs L 4 [60] i1=false:=hf 2 (by decide);have q2:=Ab hid hc hR (AQ (id:=id) (o:=o) hR BF hT _ f2);have f3:Bs L 4 [62,61] i1=false:=hf 3 (by decide);have q3:=Ab hid hc hR (AQ (id:=id) (o:=o) hR BF hT _ f3);have f4:Bs L 4 [62] i1=false:=hf 4 (by decide);have q4:=Ab hid hc hR (AQ (id:=id) (o:=o) hR BF hT _ f4);have f5:Bs L 4 [60,61] i1=true:=ht;have q5:=Ab hid hc hR (Bd (id:=id) (o:=o) hR BF hT _ f5);have hd:=fun e g0 g2 g3=>Un (L:=L) hR a hid hc e g0 g2 g3 t1;rw [AF rfl];simp only [<- A8 dF] at hd;unfold Ap at|-hd;rw [<- Ch];rw [<- C3] at t0 q0 q1 q2 q3 q4 q5;rw [<- I3] at hd;simp only [opsOf,Aa,Ac,Aau,Aav] at|-hd;simp only [S9,A6,seval,PY,PZ,AS,t0,q0,q1,q2,q3,q4,q5,hd,SX,hid];exact ⟨_,rfl⟩
    | ok b j=>
     rw [r1] at h1;dsimp only [Au];rcases Tp with rfl | rfl | rfl | rfl | rfl | rfl
     · refine Bi (A5 hR (fun n=>by rw [An];simp only [SX,PV.under]) fun bx hid hc=>?_)
       have t0:=Ab hid hc hR h0;rw [An] at t0;have t1:=Ab hid hc hR h1;rw [An] at t1 |-;unfold Qa;have f0:Bs L 4 [61,61] i1=true:=ht;have q0:=Ab hid hc hR (Bd (id:=id) (o:=o) hR BF hT _ f0);have hd:=fun e g0 g2 g3=>WC (L:=L) hR a b hid hc e g0 g2 g3 t1;rw [AF rfl];simp only [<- A8 dz] at hd;unfold Ap at|-hd;rw [<- Ch];rw [<- C3] at t0 q0;rw [<- I3] at hd;simp only [opsOf,Aa,Ac,Aau,Aav] at|-hd;simp only [S9,A6,seval,PY,PZ,AS,t0,q0,hd,SX,hid];exact ⟨_,rfl⟩
     · refine Bi (A5 hR (fun n=>by rw [An];simp only [SX,PV.under]) fun bx hid hc=>?_)
       have t0:=Ab hid hc hR h0;rw [An] at t0;have t1:=Ab hid hc hR h1;rw [An] at t1 |-;unfold Qa;have f0:Bs L 4 [61,61] i1=false:=hf 0 (by decide);have q0:=Ab hid hc hR (AQ (id:=id) (o:=o) hR BF hT _ f0);have f1:Bs L 4 [33,61] i1=true:=ht;have q1:=Ab hid hc hR (Bd (id:=id) (o:=o) hR BF hT _ f1);have hd:=fun e g0 g2 g3=>WD (L:=L) hR a b hid hc e g0 g2 g3 t1;rw [AF rfl];simp only [<- A8 dB] at hd;unfold Ap at|-hd;rw [<- Ch];rw [<- C3] at t0 q0 q1;rw [<- I3] at hd;simp only [opsOf,Aa,Ac,Aau,Aav] at|-hd;simp only [S9,A6,seval,PY,PZ,AS,t0,q0,q1,hd,SX,hid];exact ⟨_,rfl⟩
     · refine Bi (A5 hR (fun n=>by rw [An];simp only [SX,PV.under]) fun bx hid hc=>?_)
       have t0:=Ab hid hc hR h0;rw [An] at t0;have t1:=Ab hid hc hR h1;rw [An] at t1 |-;unfold Qa;have f0:Bs L 4 [61,61] i1=false:=hf 0 (by decide);have q0:=Ab hid hc hR (AQ (id:=id) (o:=o) hR BF hT _ f0);have f1:Bs L 4 [33,61] i1=false:=hf 1 (by decide);have q1:=Ab hid hc hR (AQ (id:=id) (o:=o) hR BF hT _ f1);have f2:Bs L 4 [60] i1=true:=ht;have q2:=Ab hid hc hR (Bd (id:=id) (o:=o) hR BF hT _ f2);have hd:=fun e g0 g2 g3=>WE (L:=L) hR a b hid hc e g0 g2 g3 t1;rw [AF rfl];simp only [<- A8 dC] at hd;unfold Ap at|-hd;rw [<- Ch];rw [<- C3] at t0 q0 q1 q2;rw [<- I3] at hd;simp only [opsOf,Aa,Ac,Aau,Aav] at|-hd;simp only [S9,A6,seval,PY,PZ,AS,t0,q0,q1,q2,hd,SX,hid];exact ⟨_,rfl⟩
     · refine Bi (A5 hR (fun n=>by rw [An];simp only [SX,PV.under]) fun bx hid hc=>?_)
       have t0:=Ab hid hc hR h0;rw [An] at t0;have t1:=Ab hid hc hR h1;rw [An] at t1 |-;unfold Qa;have f0:Bs L 4 [61,61] i1=false:=hf 0 (by decide);have q0:=Ab hid hc hR (AQ (id:=id) (o:=o) hR BF hT _ f0);have f1:Bs L 4 [33,61] i1=false:=hf 1 (by decide);have q1:=Ab hid hc hR (AQ (id:=id) (o:=o) hR BF hT _ f1);have f2:Bs L 4 [60] i1=false:=hf 2 (by decide);have q2:=Ab hid hc hR (AQ (id:=id) (o:=o) hR BF hT _ f2);have f3:Bs L 4 [62,61] i1=true:=ht;have q3:=Ab hid hc hR (Bd (id:=id) (o:=o) hR BF hT _ f3);have hd:=fun e g0 g2 g3=>WG (L:=L) hR a b hid hc e g0 g2 g3 t1;rw [AF rfl];simp only [<- A8 dD] at hd;unfold Ap at|-hd;rw [<- Ch];rw [<- C3] at t0 q0 q1 q2 q3;rw [<- I3] at hd;simp only [opsOf,Aa,Ac,Aau,Aav] at|-hd;simp only [S9,A6,seval,PY,PZ,AS,t0,q0,q1,q2,q3,hd,SX,hid];exact ⟨_,rfl⟩
     · refine Bi (A5 hR (fun n=>by rw [An];simp only [SX,PV.under]) fun bx hid hc=>?_)
       have t0:=Ab hid hc hR h0;rw [An] at t0;have t1:=Ab hid hc hR h1;rw [An] at t1 |-;unfold Qa;have f0:Bs L 4 [61,61] i1=false:=hf 0 (by decide);have q0:=Ab hid hc hR (AQ (id:=id) (o:=o) hR BF hT _ f0);have f1:Bs L 4 [33,61] i1=false:=hf 1 (by decide);have q1:=Ab hid hc hR (AQ (id:=id) (o:=o) hR BF hT _ f1);have f2:Bs L 4 [60] i1=false:=hf 2 (by decide);have q2:=Ab hid hc hR (AQ (id:=id) (o:=o) hR BF hT _ f2);have f3:Bs L 4 [62,61] i1=false:=hf 3 (by decide);have q3:=Ab hid hc hR (AQ (id:=id) (o:=o) hR BF hT _ f3);have f4:Bs L 4 [62] i1=true:=ht;have q4:=Ab hid hc hR (Bd (id:=id) (o:=o) hR BF hT _ f4);have hd:=fun e g0 g2 g3=>WH (L:=L) hR a b hid hc e g0 g2 g3 t1;rw [AF rfl];simp only [<- A8 dE] at hd;unfold Ap at|-hd;rw [<- Ch];rw [<- C3] at t0 q0 q1 q2 q3 q4;rw [<- I3] at hd;simp only [opsOf,Aa,Ac,Aau,Aav] at|-hd;simp only [S9,A6,seval,PY,PZ,AS,t0,q0,q1,q2,q3,q4,hd,SX,hid];exact ⟨_,rfl⟩
     · refine Bi (A5 hR (fun n=>by rw [An];simp only [SX,PV.under]) fun bx hid hc=>?_)
       have t0:=Ab hid hc hR h0;rw [An] at t0;have t1:=Ab hid hc hR h1;rw [An] at t1 |-;unfold Qa;have f0:Bs L 4 [61,61] i1=false:=hf 0 (by decide);have q0:=Ab hid hc hR (AQ (id:=id) (o:=o) hR BF hT _ f0);have f1:Bs L 4 [33,61] i1=false:=hf 1 (by decide);have q1:=Ab hid hc hR (AQ (id:=id) (o:=o) hR BF hT _ f1);have f2:Bs L 4 [60] i1=false:=hf 2 (by decide);have q2:=Ab hid hc hR (AQ (id:=id) (o:=o) hR BF hT _ f2);have f3:Bs L 4 [62,61] i1=false:=hf 3 (by decide);have q3:=Ab hid hc hR (AQ (id:=id) (o:=o) hR BF hT _ f3);have f4:Bs L 4 [62] i1=false:=hf 4 (by decide);have q4:=Ab hid hc hR (AQ (id:=id) (o:=o) hR BF hT _ f4);have f5:Bs L 4 [60,61] i1=true:=ht;have q5:=Ab hid hc hR (Bd (id:=id) (o:=o) hR BF hT _ f5);have hd:=fun e g0 g2 g3=>WI (L:=L) hR a b hid hc e g0 g2 g3 t1;rw [AF rfl];simp only [<- A8 dF] at hd;unfold Ap at|-hd;rw [<- Ch];rw [<- C3] at t0 q0 q1 q2 q3 q4 q5;rw [<- I3] at hd;simp only [opsOf,Aa,Ac,Aau,Aav] at|-hd;simp only [S9,A6,seval,PY,PZ,AS,t0,q0,q1,q2,q3,q4,q5,hd,SX,hid];exact ⟨_,rfl⟩
  · rw [hp]
    refine Bi (A5 hR (fun n=>by rw [An];simp only [SX,PV.under]) fun bx hid hc=>?_);have t0:=Ab hid hc hR h0;rw [An] at t0 |-;have f0:Bs L 4 [61,61] i1=false:=hf 0 (by decide);have q0:=Ab hid hc hR (AQ (id:=id) (o:=o) hR BF hT _ f0);have f1:Bs L 4 [33,61] i1=false:=hf 1 (by decide);have q1:=Ab hid hc hR (AQ (id:=id) (o:=o) hR BF hT _ f1);have f2:Bs L 4 [60] i1=false:=hf 2 (by decide);have q2:=Ab hid hc hR (AQ (id:=id) (o:=o) hR BF hT _ f2);have f3:Bs L 4 [62,61] i1=false:=hf 3 (by decide);have q3:=Ab hid hc hR (AQ (id:=id) (o:=o) hR BF hT _ f3);have f4:Bs L 4 [62] i1=false:=hf 4 (by decide);have q4:=Ab hid hc hR (AQ (id:=id) (o:=o) hR BF hT _ f4);have f5:Bs L 4 [60,61] i1=false:=hf 5 (by decide);have q5:=Ab hid hc hR (AQ (id:=id) (o:=o) hR BF hT _ f5);rw [AF rfl];unfold Ap at |-;rw [<- Ch];rw [<- C3] at t0 q0 q1 q2 q3 q4 q5;simp only [opsOf,Aa,Ac,Aau,Aav] at |-;simp only [S9,A6,seval,PY,PZ,AS,t0,q0,q1,q2,q3,q4,q5,SX,hid];exact ⟨_,rfl⟩
end Go.HH
