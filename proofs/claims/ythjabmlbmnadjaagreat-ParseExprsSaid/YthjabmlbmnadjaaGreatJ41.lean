/-
  What the law needs, packed: RH RI RJ RK RM RN RO RP.
-/
import Derived.Test.YthjabmlbmnadjaaGreatJ40
open Go.Proofs.Tryz renaming f19->yW,f17->y5
open Option renaming getD->yX
open List renaming map_nil->yY,map_cons->yZ,length_cons->y0,length_map->y1,length_nil->y3,getElem?_eq_some_iff->y6,exists_cons_of_ne_nil->y8,cons_append->y9,nil_append->y',all_append->za,drop_zero->zd
open Bool renaming and_self->y2,false_eq_true->y4,and_true->y7
open Nat renaming le_refl->ze
namespace Go.HH
open Go Go.Proofs
set_option maxRecDepth 100000
set_option maxHeartbeats 4000000
set_option linter.unusedSimpArgs false
set_option linter.unusedVariables false
theorem E4 {L:List Tk} (hT:TokOK L) {i:Nat} {a:Tg} {j:Nat} (hi:i < L.length) (h:DK L i=.ok a j):j < L.length:=by
 unfold DK at h;split at h
 · rename_i hk
   have B8:=AG hT hi hk (by decide);obtain ⟨_,_,r0,h⟩:=Ao h;have h0:=Eg hT B8 r0;injection h with _ h
   exact h ▸ h0.2.1
 split at h
 · rename_i hk
   have B8:=AG hT hi hk (by decide);obtain ⟨_,_,r0,h⟩:=Ao h;have h0:=Eg hT B8 r0;injection h with _ h
   exact h ▸ h0.2.1
 split at h
 · rename_i hk
   have B8:=AG hT hi hk (by decide);obtain ⟨_,_,r0,h⟩:=Ao h;have h0:=GH hT B8 r0;split at h
   · rename_i iC
     have FV:=AG hT h0.2.1 iC (by decide);obtain ⟨_,_,r0,h⟩:=Ao h;have h0:=OF hT FV r0;injection h with _ h
     exact h ▸ h0.2.1
   · injection h with _ h
     exact h ▸ h0.2.1
 split at h
 · rename_i hk
   have B8:=AG hT hi hk (by decide);split at h
   · skip
     obtain ⟨_,_,r0,h⟩:=Ao h;have h0:=Dt hT B8 r0;injection h with _ h
     exact h ▸ h0.2
   · rename_i h0 DZ
     injection h with _ h
     exact h ▸ B8
 split at h
 · rename_i hk
   have B8:=AG hT hi hk (by decide);injection h with _ h
   exact h ▸ B8
 obtain ⟨_,_,r0,h⟩:=Ao h;obtain ⟨_,_,r1,h⟩:=Ao h;have h0:=A6 hT hi (by decide) r0;have h1:=GQ hT h0.2 r1;injection h with _ h
 exact h ▸ h1.2.1
theorem LF {L:List Tk} (hT:TokOK L) {n i:Nat} {a:Sp} {j:Nat} (hi:i < L.length) (h:FQ L n i=.ok a j):j < L.length:=by
 unfold FQ at h;split at h
 · rename_i hk
   have B8:=AG hT hi hk (by decide);obtain ⟨_,_,r0,h⟩:=Ao h;obtain ⟨_,_,r1,h⟩:=Ao h;obtain ⟨_,_,r2,h⟩:=Ao h;have h0:=Eg hT B8 r0;have h1:=A6 hT h0.2.1 (by decide) r1;have h2:=EJ hT h1.2 r2;injection h with _ h
   exact h ▸ h2.2
 split at h
 · rename_i hk
   have B8:=AG hT hi hk (by decide);obtain ⟨_,_,r0,h⟩:=Ao h;have h0:=Eg hT B8 r0;split at h
   · rename_i iC
     have FV:=AG hT h0.2.1 iC (by decide);obtain ⟨_,_,r0,h⟩:=Ao h;obtain ⟨_,_,r1,h⟩:=Ao h;have h0:=EJ hT FV r0;have h1:=A6 hT h0.2 (by decide) r1;injection h with _ h
     exact h ▸ h1.2
   · injection h with _ h
     exact h ▸ h0.2.1
 split at h
 · rename_i hk
   have B8:=AG hT hi hk (by decide);obtain ⟨_,_,r0,h⟩:=Ao h;have h0:=Dt hT B8 r0;injection h with _ h
   exact h ▸ h0.2
 split at h
 · rename_i hk
   have B8:=AG hT hi hk (by decide);obtain ⟨_,_,r0,h⟩:=Ao h;have h0:=Dt hT B8 r0;injection h with _ h
   exact h ▸ h0.2
 obtain ⟨_,_,r0,h⟩:=Ao h;obtain ⟨_,_,r1,h⟩:=Ao h;have h0:=A6 hT hi (by decide) r0;have h1:=ey hT h0.2 (by decide) r1;injection h with _ h
 exact h ▸ h1.2
theorem FR {α:Type} {L:List Tk} (hT:TokOK L) {wd:List UInt8} {part:Nat->PR α} (Bq:∀ i a j,i < L.length->part i=.ok a j->j < L.length):∀ (m:Nat) (acc:List α) (i:Nat) (l:List α) (j:Nat),i < L.length->acc.length<=8->BU L wd part m acc i=.ok l j->j < L.length/\l≠[]/\l.length<=8:=by
 intro m
 induction m with
 | zero=>intro acc i l j _ _ h;cases h
 | succ m ih=>
  intro acc i l j hi h8 h;rw [BU] at h;split at h
  · split at h
    · cases h
    · obtain ⟨_,_,r0,h⟩:=Ao h
      obtain ⟨_,_,r1,h⟩:=Ao h;obtain ⟨_,_,r2,h⟩:=Ao h;have h0:=(A6 hT hi (by decide) r0).2;have h1:=Bq _ _ _ h0 r1;have h2:=(A6 hT h1 (by decide) r2).2;exact ih _ _ _ _ h2 (by rw [List.length_append];simp only [y0,y3];omega) h
  · rename_i hn
    injection h with e1 e2
    subst e1 e2;exact ⟨hi,fun e=>hn (Or.inl (by rw [e] <;> rfl)),h8⟩
theorem nW {id:Nat} {L:List Tk} {o:Nat} {RL:PV} (hR:RL.pure=true) (hT:TokOK L) (nm:List UInt8) (pr:Int) (xV:PV) (EB:∀ n,xV.under n=true) (et:Tr) (t0:Tk) {J:List PBox} (hJ:∀ n,(J.all fun x=>x.under n)=true) :
 eR 39 (DK L) id L RL o t0 J (fun acc:List Tg=>.cells 52 (Ct nm pr (Dh 46 (acc.map BJ)) xV et)):=by
 intro i hi acc h7;have h:=Z4 (id:=id) (o:=o) hR hi hT;cases r:DK L i with
 | out=>trivial
 | ok a j=>
  rw [r] at h;exact fun bx Ad hc=>kE hR j Ad hc nm pr xV EB et t0 hJ acc h7 a h
 | bad t c=>
  rw [r] at h;obtain ⟨i',o',h⟩:=h;exact ⟨i',o',fun bx Ad hc=>gT hR 0 Ad hc nm pr xV EB et t0 hJ acc h7 h⟩
theorem qK {id:Nat} {L:List Tk} {o:Nat} {RL:PV} (hR:RL.pure=true) (hT:TokOK L) (nm:List UInt8) (pr:Int) (xV:PV) (EB:∀ n,xV.under n=true) (et:Tr) (t0:Tk) {J:List PBox} (hJ:∀ n,(J.all fun x=>x.under n)=true) (wd:List UInt8) {i:Nat} (hi:i < L.length) :
 qJ 39 wd id L RL o t0 J (fun acc:List Tg=>.cells 52 (Ct nm pr (Dh 46 (acc.map BJ)) xV et)) i (BU L wd (DK L) 10 [] i):=
 Z5 hR hT hJ (fun z acc=>by show Au z (Ct nm pr (Dh 46 (acc.map BJ)) xV et)=true;exact DU z nm pr _ _ et (Ei _ _ _ (Bn BJ BC _ _)) (EB _)) (fun i a j hi h=>E4 hT hi h) (nW hR hT nm pr xV EB et t0 hJ) hi
theorem nX {id:Nat} {L:List Tk} {o:Nat} {RL:PV} (hR:RL.pure=true) (hT:TokOK L) (n:Nat) (ho:o=0) (nm:List UInt8) (pr:Int) (xV:PV) (EB:∀ n,xV.under n=true) (et:Tr) (t0:Tk) {J:List PBox} (hJ:∀ n,(J.all fun x=>x.under n)=true) :
 eR 41 (FQ L n) id L RL o t0 J (fun acc:List Sp=>.cells 52 (Ct nm pr xV (Dh 49 (acc.map B1)) et)):=by
 intro i hi acc h7;have h:=kD (id:=id) (o:=o) hR hi hT n ho;cases r:FQ L n i with
 | out=>trivial
 | ok a j=>
  rw [r] at h;exact fun bx Ad hc=>kF hR j Ad hc nm pr xV EB et t0 hJ acc h7 a h
 | bad t c=>
  rw [r] at h;obtain ⟨i',o',h⟩:=h;exact ⟨i',o',fun bx Ad hc=>gU hR 0 Ad hc nm pr xV EB et t0 hJ acc h7 h⟩
theorem qL {id:Nat} {L:List Tk} {o:Nat} {RL:PV} (hR:RL.pure=true) (hT:TokOK L) (n:Nat) (ho:o=0) (nm:List UInt8) (pr:Int) (xV:PV) (EB:∀ n,xV.under n=true) (et:Tr) (t0:Tk) {J:List PBox} (hJ:∀ n,(J.all fun x=>x.under n)=true) (wd:List UInt8) {i:Nat} (hi:i < L.length) :
 qJ 41 wd id L RL o t0 J (fun acc:List Sp=>.cells 52 (Ct nm pr xV (Dh 49 (acc.map B1)) et)) i (BU L wd (FQ L n) 10 [] i):=
 Z5 hR hT hJ (fun z acc=>by show Au z (Ct nm pr xV (Dh 49 (acc.map B1)) et)=true;exact DU z nm pr _ _ et (EB _) (Ei _ _ _ (Bn B1 BP _ _))) (fun i a j hi h=>LF hT hi h) (nX hR hT n ho nm pr xV EB et t0 hJ) hi
def pF {β:Type} (T:Code) (id:Nat) (L:List Tk) (RL:PV) (o:Nat) (t0:Tk) (J:List PBox) (i:Nat) (R0:PBox) (RLn:β->PV) (r:PR β):Prop:=match r with
 | .ok b j=>∀ (bx:List PBox) (Ad:id < bx.length) (hc:C5 bx) (e:List PV),getT e 1=.bp bx.length 0->getT e 2=.bp (bx.length+1) 0->getT e 3=.bp (bx.length+2) 0->∃ e' ys',Hg CC T ⟨e,(BX bx id (Av L i o RL) (.cells 56 [.bp id 0] :: .cells 59 [.int .i64 (t0.1:Int),.str t0.2.1,.int .i64 (t0.2.2:Int)] :: R0 :: J))⟩=some (.normal,⟨e',BX bx id (Av L j o (RLn b)) ys'⟩)
 | .bad t c=>∃ i' o',∀ (bx:List PBox) (Ad:id < bx.length) (hc:C5 bx) (e:List PV),getT e 1=.bp bx.length 0->getT e 2=.bp (bx.length+1) 0->getT e 3=.bp (bx.length+2) 0->∃ e' ys',Hg CC T ⟨e,(BX bx id (Av L i o RL) (.cells 56 [.bp id 0] :: .cells 59 [.int .i64 (t0.1:Int),.str t0.2.1,.int .i64 (t0.2.2:Int)] :: R0 :: J))⟩=some (.pan (Cr t c),⟨e',BX bx id (Av L i' o' RL) ys'⟩)
 | .out=>True
theorem H8 {β:Type} {T:Code} {id:Nat} {L:List Tk} {RL:PV} {o:Nat} {t0:Tk} {J:List PBox} {i:Nat} {R0:PBox} {RLn:β->PV}:pF T id L RL o t0 J i R0 RLn .out:=trivial
theorem BF (t:TypeId):Dh t []=.nils:=rfl
theorem BA (t:TypeId) (x:PV) (r:List PV):Dh t (x :: r)=.osl t (x :: r):=rfl
theorem E5 (t:TypeId):∀ l:List PV,Aq l=true->(Dh t l).pure=true
 | [],_=>rfl
 | x :: r,h=>h
theorem TB (t:Tg):(BJ t).pure=true:=rfl
theorem TC (s:Sp):(B1 s).pure=true:=LB s
theorem map_pure {α:Type} (f:α->PV) (hf:∀ a,(f a).pure=true):∀ l:List α,Aq (l.map f)=true
 | []=>rfl
 | x :: r=>by rw [yZ,BE,hf,map_pure f hf r];rfl
theorem pG (T:Code) (hL:T=Aa yW [1,1,1,1,1,1,1,1,1,1]) {id:Nat} {L:List Tk} {o:Nat} (hT:TokOK L) (RS:List PV) (fH:Aq RS=true) (sx:RS.length<=100) (n:Nat) (ho:o=0) (nm:List UInt8) (pr:Int) (ons:List Tg) (RR:ons≠[]) (et:Tr) (t0:Tk) {J:List PBox} (hJ:∀ n,(J.all fun x=>x.under n)=true) {i:Nat} (hi:i < L.length) :
 pF T id L (Dh 52 RS) o t0 J i (.cells 52 (Ct nm pr (Dh 46 (ons.map BJ)) (.nils) et)) (fun dos=>Dh 52 (RS++[.agg (Ct nm pr (.sl (ons.map BJ)) (.sl (dos.map B1)) et)])) ((BU L [100,111] (FQ L n) 10 [] i).bind fun dos i=>(BM L 4 [125] i).bind fun _ i=>.ok dos i):=by
 have hR:=E5 52 RS fH;have Yx:∀ n,(Dh 46 (ons.map BJ)).under n=true:=fun n=>Ei _ _ _ (Bn BJ BC n ons);have Df:∀ (n:Nat) (l:List Sp),Au n (Ct nm pr (Dh 46 (ons.map BJ)) (Dh 49 (l.map B1)) et)=true:=fun n l=>DU n nm pr _ _ et (Yx n) (Ei _ _ _ (Bn B1 BP n l));have Kp:=qL (id:=id) (o:=o) (RL:=Dh 52 RS) hR hT n ho nm pr (Dh 46 (ons.map BJ)) Yx et t0 hJ [100,111] hi;have CY:Aa yW [1,1,1,1,1,1,1,1,1,1]=.seq (Aa yW [1,1,1,1,1,1,1,1,1,1,0]) (.seq (Aa yW [1,1,1,1,1,1,1,1,1,1,1,0]) (Aa yW [1,1,1,1,1,1,1,1,1,1,1,1])):=rfl;rw [CY] at hL;cases r1:BU L [100,111] (FQ L n) 10 [] i with
 | out=>exact H8
 | bad t c=>
  rw [r1] at Kp;obtain ⟨i',o',Kp⟩:=Kp;refine ⟨i',o',fun bx Ad hc e g1 g2 g3=>?_⟩;obtain ⟨acc',t1⟩:=Kp bx Ad hc;unfold Av at t1;simp only [yY,BF] at t1;have hd:∀ k,id < bx.length+k:=fun k=>by omega
  have Dg:Aq [PV.bp (bx.length+2) 0,PV.bp bx.length 0]=false:=rfl;rw [hL];unfold Av;rw [<- B5];rw [<- Cu] at t1;simp only [opsOf,Aa,Ac,yW,yX] at |-;simp only [S9,AT,seval,PY,PZ,Aw,Al,g1,g2,g3,hd,hJ,Df,Dg,t1,SX,Ad];exact ⟨_,_,rfl⟩
 | ok dos i1=>
  rw [r1] at Kp;have Bq:=FR hT (fun i a j hi h=>LF hT hi h) 10 [] i dos i1 hi (by simp) r1;have B8:=Bq.1;have hm:=CE (id:=id) (o:=o) (i:=i1) hR B8 hT 4 4 rfl [125];dsimp only [AA];cases r2:BM L 4 [125] i1 with
  | out=>exact H8
  | bad t c=>
   rw [r2] at hm;obtain ⟨i',o',hm⟩:=hm;refine ⟨i',o',fun bx Ad hc e g1 g2 g3=>?_⟩;have t1:=Kp bx Ad hc;unfold Av at t1;simp only [yY,BF] at t1;have t2:=At Ad hc hR hm;have hd:∀ k,id < bx.length+k:=fun k=>by omega
   have Dg:Aq [PV.bp (bx.length+2) 0,PV.bp bx.length 0]=false:=rfl;rw [hL];unfold Av;rw [<- B5];rw [<- Cu] at t1 t2;simp only [opsOf,Aa,Ac,yW,yX] at |-;simp only [S9,AT,seval,PY,PZ,Aw,Al,g1,g2,g3,hd,hJ,Df,Dg,t1,t2,SX,Ad];exact ⟨_,_,rfl⟩
  | ok u i2=>
   rw [r2] at hm;dsimp only [AA];refine fun bx Ad hc e g1 g2 g3=>?_;have t1:=Kp bx Ad hc;unfold Av at t1;have t2:=Ab Ad hc hR hm;obtain ⟨x,ons,rfl⟩:=y8 RR;obtain ⟨y,dss,rfl⟩:=y8 Bq.2.1;cases RS with
   | nil=>
    simp only [yY,yZ,y',y9,BF,BA] at t1 t2 Df Yx |-;have hd:∀ k,id < bx.length+k:=fun k=>by omega
    have Dg:Aq [PV.bp (bx.length+2) 0,PV.bp bx.length 0]=false:=rfl;have Gl:=fun e g1 g3=>Z6 (id:=id) (L:=L) (i:=i2) (o:=o) Ad hc nm pr (BJ x :: ons.map BJ) (B1 y :: dss.map B1) et t0 J e g1 g3;have iz:∀ n,Au n (Ct nm pr (.osl 46 (BJ x :: ons.map BJ)) (.osl 49 (B1 y :: dss.map B1)) et)=true:=fun n=>Df n (y :: dss);unfold Av at Gl;simp only [<- AP pE] at Gl;rw [hL];unfold Av;rw [<- B5];rw [<- Cu] at t1 t2;rw [<- Fm] at Gl;simp only [opsOf,Aa,Ac,yW,yX] at|-Gl;simp only [S9,AT,seval,PY,PZ,Aw,Al,g1,g2,g3,hd,hJ,Df,Dg,t1,t2,iz,Gl,SX,Ad];exact ⟨_,_,rfl⟩
   | cons a RS=>
    simp only [yY,yZ,y',y9,BF,BA] at t1 t2 Df Yx |-;have hd:∀ k,id < bx.length+k:=fun k=>by omega
    have Dg:Aq [PV.bp (bx.length+2) 0,PV.bp bx.length 0]=false:=rfl;have Gl:=fun e g1 g3=>XW (id:=id) (L:=L) (i:=i2) (o:=o) Ad hc nm pr (BJ x :: ons.map BJ) (B1 y :: dss.map B1) et t0 J a RS (by simp only [y0] at sx;omega) e g1 g3;have iz:∀ n,Au n (Ct nm pr (.osl 46 (BJ x :: ons.map BJ)) (.osl 49 (B1 y :: dss.map B1)) et)=true:=fun n=>Df n (y :: dss);unfold Av at Gl;simp only [<- AP pE] at Gl;rw [hL];unfold Av;rw [<- B5];rw [<- Cu] at t1 t2;rw [<- Fm] at Gl;simp only [opsOf,Aa,Ac,yW,yX] at|-Gl;simp only [S9,AT,seval,PY,PZ,Aw,Al,g1,g2,g3,hd,hJ,Df,Dg,t1,t2,iz,Gl,SX,Ad];exact ⟨_,_,rfl⟩
theorem DQ (nm:List UInt8) (pr:Int) (on dos:PV) (k n m:Int) (s:List UInt8) (v:Vl) (q:Ky) (kids:List Tr):Ct nm pr on dos (.mk k n m s v q kids)=[.str nm,.int .i64 pr,on,.int .i64 k,.int .i64 n,.int .i64 m,.str s,.int .i64 v.1,.int .i64 v.2.1,.str v.2.2,.int .i64 q.1,.str q.2.1,.str q.2.2,.sl (BS kids),dos]:=rfl
theorem CM (k n m:Int) (s:List UInt8) (v:Vl) (q:Ky) (kids:List Tr):A7 (.mk k n m s v q kids)=[.int .i64 k,.int .i64 n,.int .i64 m,.str s,.int .i64 v.1,.int .i64 v.2.1,.str v.2.2,.int .i64 q.1,.str q.2.1,.str q.2.2,.sl (BS kids)]:=by unfold A7 DH;rfl
theorem Dn (n:Nat) (l:List Tr):Au n (BS l)=true:=AE n _ (By l)
theorem Bi:BS []=[]:=by unfold BS;rfl
def LG (L:List Tk) (n i:Nat):PR (List Tg×Tr×List Sp):=(BM L 4 [123] i).bind fun _ i=>
 (BU L [111,110] (DK L) 10 [] i).bind fun on i=>
 (if B2 L 1 [105,102] i then (Db L n (i+1)).bind fun e i=>(BM L 4 [59] i).bind fun _ i=>.ok e i else .ok wT i).bind fun e i=>
 (BU L [100,111] (FQ L n) 10 [] i).bind fun dos i=>(BM L 4 [125] i).bind fun _ i=>.ok (on,e,dos) i
theorem M8 {α γ:Type} (r:PR α) (f:Nat->PR Unit) (g:α->γ):((r.bind fun a i=>(f i).bind fun _ i=>PR.ok a i).bind fun b j=>PR.ok (g b) j)=r.bind fun a i=>(f i).bind fun _ i=>PR.ok (g a) i:=by
 cases r with
 | ok a i=>show (((f i).bind fun _ i=>PR.ok a i).bind fun b j=>PR.ok (g b) j)=(f i).bind fun _ i=>PR.ok (g a) i;cases f i <;> rfl
 | bad t e=>rfl
 | out=>rfl
theorem XX {β γ:Type} {T:Code} {id:Nat} {L:List Tk} {RL:PV} {o:Nat} {t0:Tk} {J:List PBox} {i:Nat} {R0:PBox} {RLn:β->PV} {r:PR β} {g:β->γ} {RLg:γ->PV} (hg:∀ b,RLg (g b)=RLn b) (h:pF T id L RL o t0 J i R0 RLn r):pF T id L RL o t0 J i R0 RLg (r.bind fun b j=>.ok (g b) j):=by
 cases r with
 | out=>trivial
 | bad t c=>exact h
 | ok b j=>unfold pF PR.bind at *;simp only [hg];exact h
theorem pH (T:Code) (hL:T=Aa yW [1,1,1,1,1,1,1]) {id:Nat} {L:List Tk} {o:Nat} (hT:TokOK L) (RS:List PV) (fH:Aq RS=true) (sx:RS.length<=100) (n:Nat) (ho:o=0) (nm:List UInt8) (pr:Int) (t0:Tk) {J:List PBox} (hJ:∀ n,(J.all fun x=>x.under n)=true) {i:Nat} (hi:i < L.length) :
 pF T id L (Dh 52 RS) o t0 J i (.cells 52 (Ct nm pr (.nils) (.nils) wT)) (fun x:List Tg×Tr×List Sp=>Dh 52 (RS++[.agg (Ct nm pr (.sl (x.1.map BJ)) (.sl (x.2.2.map B1)) x.2.1)])) (LG L n i):=by
 have hR:=E5 52 RS fH;obtain ⟨T3,yd⟩:∃ T3,T3=Aa yW [1,1,1,1,1,1,1,1,1,1]:=⟨_,rfl⟩;have CY:Aa yW [1,1,1,1,1,1,1]=.seq (Aa yW [1,1,1,1,1,1,1,0]) (.seq (Aa yW [1,1,1,1,1,1,1,1,0]) (.seq (Aa yW [1,1,1,1,1,1,1,1,1,0]) T3)):=by rw [yd];rfl
 rw [CY] at hL;have YI:∀ n,Au n (Ct nm pr .nils .nils wT)=true:=fun n=>DU n nm pr _ _ wT (by simp only [SU]) (by simp only [SU]);unfold LG;have h1:=CE (id:=id) (o:=o) (i:=i) hR hi hT 4 4 rfl [123];cases r1:BM L 4 [123] i with
 | out=>exact H8
 | bad t c=>
  rw [r1] at h1;obtain ⟨i',o',h1⟩:=h1;refine ⟨i',o',fun bx Ad hc e g1 g2 g3=>?_⟩;have t1:=At Ad hc hR h1;have Df:=YI;have hd:∀ k,id < bx.length+k:=fun k=>by omega
  have Dg:Aq [PV.bp (bx.length+2) 0,PV.bp bx.length 0]=false:=rfl;rw [hL];unfold Av;rw [<- B5];rw [<- Cu] at t1;simp only [opsOf,Aa,Ac,yW,yX] at |-;simp only [S9,AT,seval,PY,PZ,Aw,Al,g1,g2,g3,hd,hJ,Df,Dg,t1,SX,Ad];exact ⟨_,_,rfl⟩
 | ok u i1=>
  rw [r1] at h1;dsimp only [AA];have B8:=(A6 hT hi (by decide) r1).2;have Kp:=qK (id:=id) (o:=o) (RL:=Dh 52 RS) hR hT nm pr .nils (fun n=>by simp only [SU]) wT t0 hJ [111,110] B8;cases r2:BU L [111,110] (DK L) 10 [] i1 with
  | out=>exact H8
  | bad t c=>
   rw [r2] at Kp;obtain ⟨i',o',Kp⟩:=Kp;refine ⟨i',o',fun bx Ad hc e g1 g2 g3=>?_⟩;have t1:=Ab Ad hc hR h1;obtain ⟨acc',t2⟩:=Kp bx Ad hc;unfold Av at t2;simp only [yY,BF] at t2;have Df:=YI;have hd:∀ k,id < bx.length+k:=fun k=>by omega
   have Dg:Aq [PV.bp (bx.length+2) 0,PV.bp bx.length 0]=false:=rfl;rw [hL];unfold Av;rw [<- B5];rw [<- Cu] at t1 t2;simp only [opsOf,Aa,Ac,yW,yX] at |-;simp only [S9,AT,seval,PY,PZ,Aw,Al,g1,g2,g3,hd,hJ,Df,Dg,t1,t2,SX,Ad];exact ⟨_,_,rfl⟩
  | ok ons i2=>
   rw [r2] at Kp;dsimp only [AA];have Bq:=FR hT (fun i a j hi h=>E4 hT hi h) 10 [] i1 ons i2 B8 (by simp) r2;have FV:=Bq.1;have Yx:∀ n,(Dh 46 (ons.map BJ)).under n=true:=fun n=>Ei _ _ _ (Bn BJ BC n ons);have Yy:∀ n,Au n (Ct nm pr (Dh 46 (ons.map BJ)) .nils wT)=true:=fun n=>DU n nm pr _ _ wT (Yx n) (by simp only [SU]);cases f0:B2 L 1 [105,102] i2 with
   | false=>
    simp only [y4,if_false];dsimp only [AA];have key:=XX (RLg:=(fun x:List Tg×Tr×List Sp=>Dh 52 (RS++[.agg (Ct nm pr (.sl (x.1.map BJ)) (.sl (x.2.2.map B1)) x.2.1)]))) (g:=fun dos=>(ons,wT,dos)) (fun b=>rfl) (pG T3 yd (id:=id) hT RS fH sx n ho nm pr ons Bq.2.1 wT t0 hJ FV);rw [M8] at key;revert key;generalize ((BU L [100,111] (FQ L n) 10 [] i2).bind fun dos i=>(BM L 4 [125] i).bind fun _ i=>PR.ok (ons,wT,dos) i)=rr;intro key;cases rr with
    | out=>exact H8
    | bad t c=>
     obtain ⟨i',o',key⟩:=key;refine ⟨i',o',fun bx Ad hc e g1 g2 g3=>?_⟩;have key:=key bx Ad hc;have hd:∀ k,id < bx.length+k:=fun k=>by omega
     have Dg:Aq [PV.bp (bx.length+2) 0,PV.bp bx.length 0]=false:=rfl;have t1:=Ab Ad hc hR h1;have t2:=Kp bx Ad hc;unfold Av at t2;simp only [yY,BF] at t2;have Df:=YI;have q0:=Ab Ad hc hR (Ai (id:=id) (o:=o) hR FV hT _ f0);rw [hL];unfold Av at|-key;rw [<- B5];rw [<- B5] at key;rw [<- Cu] at t1 t2 q0;simp only [opsOf,Aa,Ac,yW,yX] at |-;simp only [S9,AT,seval,PY,PZ,Aw,Al,g1,g2,g3,hd,hJ,Df,Dg,t1,t2,q0,Yy,SX,Ad];refine key _ ?_ ?_ ?_
     · simp only [S7,AT,seval,g1]
     · simp only [S7,AT,seval,g2]
     · simp only [S7,AT,seval,g3]
    | ok v j=>
     refine fun bx Ad hc e g1 g2 g3=>?_;have key:=key bx Ad hc;have hd:∀ k,id < bx.length+k:=fun k=>by omega
     have Dg:Aq [PV.bp (bx.length+2) 0,PV.bp bx.length 0]=false:=rfl;have t1:=Ab Ad hc hR h1;have t2:=Kp bx Ad hc;unfold Av at t2;simp only [yY,BF] at t2;have Df:=YI;have q0:=Ab Ad hc hR (Ai (id:=id) (o:=o) hR FV hT _ f0);rw [hL];unfold Av at|-key;rw [<- B5];rw [<- B5] at key;rw [<- Cu] at t1 t2 q0;simp only [opsOf,Aa,Ac,yW,yX] at |-;simp only [S9,AT,seval,PY,PZ,Aw,Al,g1,g2,g3,hd,hJ,Df,Dg,t1,t2,q0,Yy,SX,Ad];refine key _ ?_ ?_ ?_
     · simp only [S7,AT,seval,g1]
     · simp only [S7,AT,seval,g2]
     · simp only [S7,AT,seval,g3]
   | true=>
    simp only [if_true];have VS:=AG hT FV f0 (by decide);have h3:=HI (id:=id) (i:=i2+1) hR hT VS n o ho;cases r3:Db L n (i2+1) with
    | out=>exact H8
    | bad t c=>
     rw [r3] at h3;obtain ⟨i',o',h3⟩:=h3;refine ⟨i',o',fun bx Ad hc e g1 g2 g3=>?_⟩;have hd:∀ k,id < bx.length+k:=fun k=>by omega
     have Dg:Aq [PV.bp (bx.length+2) 0,PV.bp bx.length 0]=false:=rfl;have t1:=Ab Ad hc hR h1;have t2:=Kp bx Ad hc;unfold Av at t2;simp only [yY,BF] at t2;have Df:=YI;have q0:=Ab Ad hc hR (Az (id:=id) (o:=o) hR FV hT _ f0);have t3:=At Ad hc hR h3;rw [hL];unfold Av;rw [<- B5];rw [<- Cu] at t1 t2 q0 t3;simp only [opsOf,Aa,Ac,yW,yX] at |-;simp only [S9,AT,seval,PY,PZ,Aw,Al,g1,g2,g3,hd,hJ,Df,Dg,t1,t2,q0,t3,Yy,SX,Ad];exact ⟨_,_,rfl⟩
    | ok a i3=>
     rw [r3] at h3;dsimp only [AA];have iW:=(EJ hT VS r3).2;have h4:=CE (id:=id) (o:=o) (i:=i3) hR iW hT 4 4 rfl [59];cases r4:BM L 4 [59] i3 with
     | out=>exact H8
     | bad t c=>
      rw [r4] at h4;obtain ⟨i',o',h4⟩:=h4;refine ⟨i',o',fun bx Ad hc e g1 g2 g3=>?_⟩;have hd:∀ k,id < bx.length+k:=fun k=>by omega
      have Dg:Aq [PV.bp (bx.length+2) 0,PV.bp bx.length 0]=false:=rfl;obtain ⟨ak,an,am,as_,av,aq,akids⟩:=a;have t1:=Ab Ad hc hR h1;have t2:=Kp bx Ad hc;unfold Av at t2;simp only [yY,BF] at t2;have Df:=YI;have q0:=Ab Ad hc hR (Az (id:=id) (o:=o) hR FV hT _ f0);have t3:=Ab Ad hc hR h3;rw [An] at t3;have t4:=At Ad hc hR h4;unfold wT zK at Df Yy t2 |-;simp only [DQ,Bi,SU,Yx,y2,y7] at Df Yy;simp only [DQ,Bi] at t2 |-;simp only [CM] at t3;rw [hL];unfold Av;rw [<- B5];rw [<- Cu] at t1 t2 q0 t3 t4;simp only [opsOf,Aa,Ac,yW,yX] at |-;simp only [S9,AT,seval,PY,PZ,Aw,Al,g1,g2,g3,hd,hJ,Df,Dg,t1,t2,q0,t3,t4,Yx,Dn,Bi,SX,Ad];exact ⟨_,_,rfl⟩
     | ok u4 i4=>
      rw [r4] at h4;dsimp only [AA];have hi5:=(A6 hT iW (by decide) r4).2;have key:=XX (RLg:=(fun x:List Tg×Tr×List Sp=>Dh 52 (RS++[.agg (Ct nm pr (.sl (x.1.map BJ)) (.sl (x.2.2.map B1)) x.2.1)]))) (g:=fun dos=>(ons,a,dos)) (fun b=>rfl) (pG T3 yd (id:=id) hT RS fH sx n ho nm pr ons Bq.2.1 a t0 hJ hi5);rw [M8] at key;revert key;generalize ((BU L [100,111] (FQ L n) 10 [] i4).bind fun dos i=>(BM L 4 [125] i).bind fun _ i=>PR.ok (ons,a,dos) i)=rr;intro key;cases rr with
      | out=>exact H8
      | bad t c=>
       obtain ⟨ak,an,am,as_,av,aq,akids⟩:=a;obtain ⟨i',o',key⟩:=key;refine ⟨i',o',fun bx Ad hc e g1 g2 g3=>?_⟩;have key:=key bx Ad hc;have hd:∀ k,id < bx.length+k:=fun k=>by omega
       have Dg:Aq [PV.bp (bx.length+2) 0,PV.bp bx.length 0]=false:=rfl;have t1:=Ab Ad hc hR h1;have t2:=Kp bx Ad hc;unfold Av at t2;simp only [yY,BF] at t2;have Df:=YI;have q0:=Ab Ad hc hR (Az (id:=id) (o:=o) hR FV hT _ f0);have t3:=Ab Ad hc hR h3;rw [An] at t3;have t4:=Ab Ad hc hR h4;unfold wT zK at Df Yy t2 |-;simp only [DQ,Bi,SU,Yx,y2,y7] at Df Yy;simp only [DQ,Bi] at t2 |-;simp only [CM] at t3;simp only [DQ] at key;rw [hL];unfold Av at|-key;rw [<- B5];rw [<- B5] at key;rw [<- Cu] at t1 t2 q0 t3 t4;simp only [opsOf,Aa,Ac,yW,yX] at |-;simp only [S9,AT,seval,PY,PZ,Aw,Al,g1,g2,g3,hd,hJ,Df,Dg,t1,t2,q0,t3,t4,Yx,Dn,Bi,SX,Ad];refine key _ ?_ ?_ ?_
       · simp only [S7,AT,seval,g1]
       · simp only [S7,AT,seval,g2]
       · simp only [S7,AT,seval,g3]
      | ok v j=>
       obtain ⟨ak,an,am,as_,av,aq,akids⟩:=a;refine fun bx Ad hc e g1 g2 g3=>?_;have key:=key bx Ad hc;have hd:∀ k,id < bx.length+k:=fun k=>by omega
       have Dg:Aq [PV.bp (bx.length+2) 0,PV.bp bx.length 0]=false:=rfl;have t1:=Ab Ad hc hR h1;have t2:=Kp bx Ad hc;unfold Av at t2;simp only [yY,BF] at t2;have Df:=YI;have q0:=Ab Ad hc hR (Az (id:=id) (o:=o) hR FV hT _ f0);have t3:=Ab Ad hc hR h3;rw [An] at t3;have t4:=Ab Ad hc hR h4;unfold wT zK at Df Yy t2 |-;simp only [DQ,Bi,SU,Yx,y2,y7] at Df Yy;simp only [DQ,Bi] at t2 |-;simp only [CM] at t3;simp only [DQ] at key;rw [hL];unfold Av at|-key;rw [<- B5];rw [<- B5] at key;rw [<- Cu] at t1 t2 q0 t3 t4;simp only [opsOf,Aa,Ac,yW,yX] at |-;simp only [S9,AT,seval,PY,PZ,Aw,Al,g1,g2,g3,hd,hJ,Df,Dg,t1,t2,q0,t3,t4,Yx,Dn,Bi,SX,Ad];refine key _ ?_ ?_ ?_
       · simp only [S7,AT,seval,g1]
       · simp only [S7,AT,seval,g2]
       · simp only [S7,AT,seval,g3]
def CW (r:Rl):PV:=.agg (Ct r.nm r.pr (.sl (r.on.map BJ)) (.sl (r.dos.map B1)) r.ife)
def H9 (L:List Tk) (n:Nat) (nm:List UInt8) (i:Nat):PR Rl:=(if B2 L 1 [112,114,105,111,114,105,116,121] i then Hj L 0 100 (i+1) else .ok 0 i).bind fun pr i=>(LG L n i).bind fun x i=>.ok ⟨nm,(pr:Nat),x.1,x.2.1,x.2.2⟩ i
theorem uh (T:Code) (hL:T=Aa yW [1,1,1,1,1,1]) {id:Nat} {L:List Tk} {o:Nat} (hT:TokOK L) (RS:List PV) (fH:Aq RS=true) (sx:RS.length<=100) (n:Nat) (ho:o=0) (nm:List UInt8) (t0:Tk) {J:List PBox} (hJ:∀ n,(J.all fun x=>x.under n)=true) {i:Nat} (hi:i < L.length) :
 pF T id L (Dh 52 RS) o t0 J i (.cells 52 (Ct nm 0 (.nils) (.nils) wT)) (fun r:Rl=>Dh 52 (RS++[CW r])) (H9 L n nm i):=by
 have hR:=E5 52 RS fH;obtain ⟨T2,ye⟩:∃ T2,T2=Aa yW [1,1,1,1,1,1,1]:=⟨_,rfl⟩;have CY:Aa yW [1,1,1,1,1,1]=.seq (Aa yW [1,1,1,1,1,1,0]) T2:=by rw [ye];rfl
 rw [CY] at hL;have YI:∀ n,Au n (Ct nm 0 .nils .nils wT)=true:=fun n=>DU n nm 0 _ _ wT (by simp only [SU]) (by simp only [SU]);unfold H9;cases f0:B2 L 1 [112,114,105,111,114,105,116,121] i with
 | false=>
  simp only [y4,if_false];dsimp only [AA];have key:=XX (RLg:=(fun r:Rl=>Dh 52 (RS++[CW r]))) (g:=fun x:List Tg×Tr×List Sp=>(⟨nm,(0:Nat),x.1,x.2.1,x.2.2⟩:Rl)) (fun b=>rfl) (pH T2 ye (id:=id) hT RS fH sx n ho nm ((0:Nat):Int) t0 hJ hi);revert key;generalize ((LG L n i).bind fun x i=>PR.ok (⟨nm,(0:Nat),x.1,x.2.1,x.2.2⟩:Rl) i)=rr;intro key;cases rr with
  | out=>exact H8
  | bad t c=>
   obtain ⟨i',o',key⟩:=key;refine ⟨i',o',fun bx Ad hc e g1 g2 g3=>?_⟩;have key:=key bx Ad hc;have hd:∀ k,id < bx.length+k:=fun k=>by omega
   have Dg:Aq [PV.bp (bx.length+2) 0,PV.bp bx.length 0]=false:=rfl;have Df:=YI;have q0:=Ab Ad hc hR (Ai (id:=id) (o:=o) hR hi hT _ f0);rw [show ((0:Nat):Int)=0 from rfl] at key;rw [hL];unfold Av at|-key;rw [<- B5];rw [<- B5] at key;rw [<- Cu] at q0;simp only [opsOf,Aa,Ac,yW,yX] at |-;simp only [S9,AT,seval,PY,PZ,Aw,Al,g1,g2,g3,hd,hJ,Df,Dg,q0,SX,Ad];refine key _ ?_ ?_ ?_
   · simp only [S7,AT,seval,g1]
   · simp only [S7,AT,seval,g2]
   · simp only [S7,AT,seval,g3]
  | ok v j=>
   refine fun bx Ad hc e g1 g2 g3=>?_;have key:=key bx Ad hc;have hd:∀ k,id < bx.length+k:=fun k=>by omega
   have Dg:Aq [PV.bp (bx.length+2) 0,PV.bp bx.length 0]=false:=rfl;have Df:=YI;have q0:=Ab Ad hc hR (Ai (id:=id) (o:=o) hR hi hT _ f0);rw [show ((0:Nat):Int)=0 from rfl] at key;rw [hL];unfold Av at|-key;rw [<- B5];rw [<- B5] at key;rw [<- Cu] at q0;simp only [opsOf,Aa,Ac,yW,yX] at |-;simp only [S9,AT,seval,PY,PZ,Aw,Al,g1,g2,g3,hd,hJ,Df,Dg,q0,SX,Ad];refine key _ ?_ ?_ ?_
   · simp only [S7,AT,seval,g1]
   · simp only [S7,AT,seval,g2]
   · simp only [S7,AT,seval,g3]
 | true=>
  simp only [if_true];have B8:=AG hT hi f0 (by decide);have h1:=H5 (id:=id) (o:=o) (i:=i+1) hR B8 hT 0 100 0 100 rfl rfl;cases r1:Hj L 0 100 (i+1) with
  | out=>exact H8
  | bad t c=>
   rw [r1] at h1;obtain ⟨i',o',h1⟩:=h1;refine ⟨i',o',fun bx Ad hc e g1 g2 g3=>?_⟩;have hd:∀ k,id < bx.length+k:=fun k=>by omega
   have Dg:Aq [PV.bp (bx.length+2) 0,PV.bp bx.length 0]=false:=rfl;have Df:=YI;have q0:=Ab Ad hc hR (Az (id:=id) (o:=o) hR hi hT _ f0);have t1:=At Ad hc hR h1;rw [hL];unfold Av;rw [<- B5];rw [<- Cu] at q0 t1;simp only [opsOf,Aa,Ac,yW,yX] at |-;simp only [S9,AT,seval,PY,PZ,Aw,Al,g1,g2,g3,hd,hJ,Df,Dg,q0,t1,SX,Ad];exact ⟨_,_,rfl⟩
  | ok a i1=>
   rw [r1] at h1;dsimp only [AA];have FV:=(GQ hT B8 r1).2.1;have key:=XX (RLg:=(fun r:Rl=>Dh 52 (RS++[CW r]))) (g:=fun x:List Tg×Tr×List Sp=>(⟨nm,(a:Nat),x.1,x.2.1,x.2.2⟩:Rl)) (fun b=>rfl) (pH T2 ye (id:=id) hT RS fH sx n ho nm ((a:Nat):Int) t0 hJ FV);revert key;generalize ((LG L n i1).bind fun x i=>PR.ok (⟨nm,(a:Nat),x.1,x.2.1,x.2.2⟩:Rl) i)=rr;intro key;cases rr with
   | out=>exact H8
   | bad t c=>
    obtain ⟨i',o',key⟩:=key;refine ⟨i',o',fun bx Ad hc e g1 g2 g3=>?_⟩;have key:=key bx Ad hc;have hd:∀ k,id < bx.length+k:=fun k=>by omega
    have Dg:Aq [PV.bp (bx.length+2) 0,PV.bp bx.length 0]=false:=rfl;have Df:=YI;have q0:=Ab Ad hc hR (Az (id:=id) (o:=o) hR hi hT _ f0);have t1:=Ab Ad hc hR h1;unfold wT zK at Df |-;simp only [DQ,Bi,SU,y2,y7] at Df;simp only [DQ,Bi];unfold wT zK at key;simp only [DQ,Bi] at key;rw [hL];unfold Av at|-key;rw [<- B5];rw [<- B5] at key;rw [<- Cu] at q0 t1;simp only [opsOf,Aa,Ac,yW,yX] at |-;simp only [S9,AT,seval,PY,PZ,Aw,Al,g1,g2,g3,hd,hJ,Df,Dg,q0,t1,Dn,SX,Ad];refine key _ ?_ ?_ ?_
    · simp only [S7,AT,seval,g1]
    · simp only [S7,AT,seval,g2]
    · simp only [S7,AT,seval,g3]
   | ok v j=>
    refine fun bx Ad hc e g1 g2 g3=>?_;have key:=key bx Ad hc;have hd:∀ k,id < bx.length+k:=fun k=>by omega
    have Dg:Aq [PV.bp (bx.length+2) 0,PV.bp bx.length 0]=false:=rfl;have Df:=YI;have q0:=Ab Ad hc hR (Az (id:=id) (o:=o) hR hi hT _ f0);have t1:=Ab Ad hc hR h1;unfold wT zK at Df |-;simp only [DQ,Bi,SU,y2,y7] at Df;simp only [DQ,Bi];unfold wT zK at key;simp only [DQ,Bi] at key;rw [hL];unfold Av at|-key;rw [<- B5];rw [<- B5] at key;rw [<- Cu] at q0 t1;simp only [opsOf,Aa,Ac,yW,yX] at |-;simp only [S9,AT,seval,PY,PZ,Aw,Al,g1,g2,g3,hd,hJ,Df,Dg,q0,t1,Dn,SX,Ad];refine key _ ?_ ?_ ?_
    · simp only [S7,AT,seval,g1]
    · simp only [S7,AT,seval,g2]
    · simp only [S7,AT,seval,g3]
def nY (r:Rl):PBox:=.cells 52 (Ct r.nm r.pr (.sl (r.on.map BJ)) (.sl (r.dos.map B1)) r.ife)
theorem Z7 {α:Type} (J:List α) (x y:α):(J++[x]).set J.length y=J++[y]:=by rw [List.set_append_right _ _ (ze _),Nat.sub_self];rfl
theorem Wu (n:Nat) (r:Rl):(nY r).under n=true:=by
 show Au n (Ct r.nm r.pr (.sl (r.on.map BJ)) (.sl (r.dos.map B1)) r.ife)=true;exact DU n _ _ _ _ _ (by simp only [PV.under];exact Bn BJ BC n _) (by simp only [PV.under];exact Bn B1 BP n _)
theorem VE {J K:List PBox} (hJ:∀ n,(J.all fun x=>x.under n)=true) (hK:∀ n,(K.all fun x=>x.under n)=true):∀ n,((J++K).all fun x=>x.under n)=true:=fun n=>by rw [za,hJ,hK];rfl
theorem cQ (rs:List Rl):∀ n,((rs.map nY).all fun x=>x.under n)=true:=fun n=>by
 rw [List.all_eq_true];intro x hx;obtain ⟨r,_,rfl⟩:=List.mem_map.1 hx;exact Wu n r
def wP (Lc:Code) (id:Nat) (L:List Tk) (RL:PV) (i o:Nat) (t0:Tk) (nm:List UInt8) (rs:List Rl) (k:Nat) (b:Bool):Prop:=∀ (bx:List PBox) (Ad:id < bx.length) (hc:C5 bx) (J:List PBox) (hJ:∀ n,(J.all fun x=>x.under n)=true) (e:List PV),getT e 1=.bp bx.length 0->getT e 2=.bp (bx.length+1) 0->getT e 3=.bp (bx.length+2) 0->(rs=[]\/getT e 31=.sl (rs.map CW))->getT e 32=.int .i64 (rs.length:Int)->getT e 33=.int .i64 (k:Int) ->
 if b=true then ∃ e' ys',Hg CC Lc ⟨e,(BX bx id (Av L i o RL) (.cells 56 [.bp id 0] :: .cells 59 [.int .i64 (t0.1:Int),.str t0.2.1,.int .i64 (t0.2.2:Int)] :: .cells 52 (Ct nm 0 (.nils) (.nils) wT) :: J))⟩=some (.pan (Cr t0.2.2 9),⟨e',BX bx id (Av L i o RL) ys'⟩)
 else ∃ e',Hg CC Lc ⟨e,(BX bx id (Av L i o RL) (.cells 56 [.bp id 0] :: .cells 59 [.int .i64 (t0.1:Int),.str t0.2.1,.int .i64 (t0.2.2:Int)] :: .cells 52 (Ct nm 0 (.nils) (.nils) wT) :: J))⟩=some (.exit 0,⟨e',(BX bx id (Av L i o RL) (.cells 56 [.bp id 0] :: .cells 59 [.int .i64 (t0.1:Int),.str t0.2.1,.int .i64 (t0.2.2:Int)] :: .cells 52 (Ct nm 0 (.nils) (.nils) wT) :: (J++(rs.drop k).map nY)))⟩)/\getT e' 1=.bp bx.length 0/\getT e' 2=.bp (bx.length+1) 0/\getT e' 3=.bp (bx.length+2) 0
theorem cR (Lc:Code) (hL:Lc=Aa yW [1,1,1,1,1,0,1,0]) {id:Nat} {L:List Tk} {RL:PV} {i o:Nat} (hR:RL.pure=true) (t0:Tk) (nm:List UInt8) (rs:List Rl) (wx:rs.length<=100):∀ (m k:Nat),k+m=rs.length->wP Lc id L RL i o t0 nm rs k ((rs.drop k).any fun r=>r.nm == nm):=by
 have YI:∀ n,Au n (Ct nm 0 .nils .nils wT)=true:=fun n=>DU n nm 0 _ _ wT (by simp only [SU]) (by simp only [SU]);intro m
 induction m with
 | zero=>
  intro k hk bx Ad hc J hJ e g1 g2 g3 g31 g32 g33;have Fm:rs.drop k=[]:=List.drop_of_length_le (by omega);have Bq:¬ ((k:Int) < (rs.length:Int)):=by omega
  rw [Fm];simp only [List.any_nil,y4,if_false,yY,List.append_nil];generalize rs.map CW=xs at *;generalize rs.length=xl at *;have Df:=YI;have hd:∀ k,id < bx.length+k:=fun k=>by omega
  have Dg:Aq [PV.bp (bx.length+2) 0,PV.bp bx.length 0]=false:=rfl;rw [Eu (Aa yW [1,1,1,1,1,0,1,0,0]) hL];unfold Av;rw [<- B5];simp only [opsOf,Aa,Ac,yW,yX] at |-;simp only [S9,AT,seval,PY,PZ,Aw,Al,g1,g2,g3,hd,hJ,Df,Dg,g32,g33,Bq,SX,Ad];exact ⟨_,rfl,by simp only [S7,AT,seval,g1],by simp only [S7,AT,seval,g2],by simp only [S7,AT,seval,g3]⟩
 | succ m ih=>
  intro k hk bx Ad hc J hJ e g1 g2 g3 g31 g32 g33;have g31:getT e 31=.sl (rs.map CW):=g31.resolve_left (fun h=>by rw [h] at hk;simp at hk);have Bq:((k:Int) < (rs.length:Int)):=by omega
  have Yv:¬ ((k:Int) < 0):=by omega
  have Fm:rs.drop k=(rs[k]'(by omega)) :: rs.drop (k+1):=List.drop_eq_getElem_cons (by omega);have hx:(rs.map CW)[k]?=some (CW (rs[k]'(by omega))):=by rw [List.getElem?_map,List.getElem?_eq_getElem (by omega)];rfl
  have hlen:(rs.map CW).length=rs.length:=y1 _;have hw:IntKind.wrap .i64 ((k:Int)+1)=((k+1:Nat):Int):=by rw [wrap_i64 ⟨by omega,by omega⟩];omega
  have hJ2:=VE hJ (K:=[nY (rs[k]'(by omega))]) (fun n=>by simp only [List.all_cons,List.all_nil,Wu,y2]);have key:=fun e=>ih (k+1) (by omega) bx Ad hc (J++[nY (rs[k]'(by omega))]) hJ2 e;rw [List.append_assoc,List.singleton_append,<- yZ,<- Fm] at key;have Ko:=Z7 J;have fx:=fun x:PBox=>List.getElem?_concat_length (l:=J) (a:=x);have ht:=At Ad hc hR (Dk (id:=id) (i:=i) (o:=o) (L:=L) (RL:=RL) hR t0.1 t0.2.1 t0.2.2 9);have hany:((rs.drop k).any fun r=>r.nm == nm)=((rs[k]'(by omega)).nm == nm || (rs.drop (k+1)).any fun r=>r.nm == nm):=by rw [Fm,List.any_cons]
  rw [hany];generalize ((rs.drop (k+1)).any fun r=>r.nm == nm)=b at *;generalize rs[k]'(by omega)=x at *;generalize (rs.drop k).map nY=Kx at *;generalize rs.map CW=xs at *;generalize rs.length=xl at *;obtain ⟨xn,xp,xon,⟨xk,xkn,xm,xs_,xv,xq,xkids⟩,xdo⟩:=x;unfold nY CW at *;unfold wT zK at *;simp only [DQ,Bi] at *;have hs:HP BinOp.eql xn nm=some (.bool (xn == nm)):=rfl;cases hn:xn == nm with
  | true=>
   simp only [Bool.true_or,if_true];have Df:=YI;have tgu:=fun n=>Bn BJ BC n xon;have spu:=fun n=>Bn B1 BP n xdo;have hd:∀ k,id < bx.length+k:=fun k=>by omega
   have Dg:Aq [PV.bp (bx.length+2) 0,PV.bp bx.length 0]=false:=rfl;rw [Eu (Aa yW [1,1,1,1,1,0,1,0,0]) hL];unfold Av;rw [<- B5];rw [<- Cu] at ht;simp only [opsOf,Aa,Ac,yW,yX] at |-;simp only [S9,AT,seval,PY,PZ,Aw,Al,g1,g2,g3,hd,hJ,Df,Dg,g31,g32,g33,Bq,Yv,hx,hlen,hw,Ko,fx,hs,hn,Dn,ht,tgu,spu,za,SX,Ad];exact ⟨_,_,rfl⟩
  | false=>
   simp only [Bool.false_or];have Df:=YI;have hd:∀ k,id < bx.length+k:=fun k=>by omega
   have Dg:Aq [PV.bp (bx.length+2) 0,PV.bp bx.length 0]=false:=rfl;rw [Eu (Aa yW [1,1,1,1,1,0,1,0,0]) hL];unfold Av at|-key;rw [<- B5];rw [<- B5] at key;simp only [opsOf,Aa,Ac,yW,yX] at |-;simp only [S9,AT,seval,PY,PZ,Aw,Al,g1,g2,g3,hd,hJ,Df,Dg,g31,g32,g33,Bq,Yv,hx,hlen,hw,Ko,fx,hs,hn,Dn,SX,Ad];refine key _ ?_ ?_ ?_ ?_ ?_ ?_
   · simp only [S7,AT,seval,g1]
   · simp only [S7,AT,seval,g2]
   · simp only [S7,AT,seval,g3]
   · exact Or.inr (by simp only [S7,AT,seval,g31])
   · simp only [S7,AT,seval,g32]
   · simp only [S7,AT,seval]
def ui {β:Type} (T:Code) (id:Nat) (L:List Tk) (RL:PV) (o:Nat) (i:Nat) (RLn:β->PV) (r:PR β):Prop:=match r with
 | .ok b j=>∀ (bx:List PBox) (Ad:id < bx.length) (hc:C5 bx) (e:List PV),getT e 1=.bp bx.length 0->∃ e' ys',Hg CC T ⟨e,BX bx id (Av L i o RL) [.cells 56 [.bp id 0]]⟩=some (.normal,⟨e',BX bx id (Av L j o (RLn b)) ys'⟩)
 | .bad t c=>∃ i' o',∀ (bx:List PBox) (Ad:id < bx.length) (hc:C5 bx) (e:List PV),getT e 1=.bp bx.length 0->∃ e' ys',Hg CC T ⟨e,BX bx id (Av L i o RL) [.cells 56 [.bp id 0]]⟩=some (.pan (Cr t c),⟨e',BX bx id (Av L i' o' RL) ys'⟩)
 | .out=>True
theorem cS {β:Type} {T:Code} {id:Nat} {L:List Tk} {RL:PV} {o:Nat} {i:Nat} {RLn:β->PV}:ui T id L RL o i RLn .out:=trivial
theorem wQ (nm:List UInt8) (k n m v1 v2 q1:Int) (s v3 q2 q3:List UInt8) (ks:List PV):Bp CC 52 [(0,.str nm),(3,.agg [.int .i64 k,.int .i64 n,.int .i64 m,.str s,.int .i64 v1,.int .i64 v2,.str v3,.int .i64 q1,.str q2,.str q3,.sl ks])]=some (.agg [.str nm,.int .i64 0,.nils,.int .i64 k,.int .i64 n,.int .i64 m,.str s,.int .i64 v1,.int .i64 v2,.str v3,.int .i64 q1,.str q2,.str q3,.sl ks,.nils]):=by kernel_rfl
theorem Ej (r:Rl):(CW r).pure=true:=by
 obtain ⟨nm,pr,on,⟨k,n,m,s,v,q,kids⟩,dos⟩:=r;have h1:=By kids;have h2:=map_pure BJ TB on;have h3:=map_pure B1 TC dos;unfold CW;rw [DQ];simp only [PV.pure,Aq,h1,h2,h3,y2]
def M9 (L:List Tk) (n:Nat) (rs:List Rl) (i:Nat):PR Rl:=(BM L 1 [114,117,108,101] i).bind fun _ i0=>(CI L i0).bind fun nm i=>if (rs.any fun r=>r.nm == nm)=true then .bad (atT L i0) 9 else H9 L n nm i
theorem uj (T:Code) (hL:T=Aa yW [1,1]) {id:Nat} {L:List Tk} {o:Nat} (hT:TokOK L) (rs:List Rl) (wx:rs.length<=100) (n:Nat) (ho:o=0) {i:Nat} (hi:i < L.length) :
 ui T id L (Dh 52 (rs.map CW)) o i (fun r=>Dh 52 ((rs++[r]).map CW)) (M9 L n rs i):=by
 have fH:=map_pure CW Ej rs;have hR:=E5 52 _ fH;obtain ⟨T1,vD⟩:∃ T1,T1=Aa yW [1,1,1,1,1,1]:=⟨_,rfl⟩;have CY:Aa yW [1,1]=.seq (Aa yW [1,1,0]) (.seq (Aa yW [1,1,1,0]) (.seq (Aa yW [1,1,1,1,0]) (.seq (Aa yW [1,1,1,1,1,0]) T1))):=by rw [vD];rfl
 rw [CY] at hL;have hJ:∀ n,(([]:List PBox).all fun x=>x.under n)=true:=fun _=>rfl;have Df:∀ k:Nat,k<=k:=fun k=>ze _;unfold M9;have h1:=CE (id:=id) (o:=o) (i:=i) hR hi hT 1 1 rfl [114,117,108,101];cases r1:BM L 1 [114,117,108,101] i with
 | out=>exact cS
 | bad t c=>
  rw [r1] at h1;obtain ⟨i',o',h1⟩:=h1;refine ⟨i',o',fun bx Ad hc e g1=>?_⟩;have t1:=At Ad hc hR h1;have g2:=g1;have g3:=g1;have hd:∀ k,id < bx.length+k:=fun k=>by omega
  have Dg:Aq [PV.bp (bx.length+2) 0,PV.bp bx.length 0]=false:=rfl;rw [hL];unfold Av;rw [<- B5];rw [<- Cu] at t1;simp only [opsOf,Aa,Ac,yW,yX] at |-;simp only [S9,AT,seval,PY,PZ,Aw,Al,g1,g2,g3,hd,hJ,Df,Dg,t1,SX,Ad];exact ⟨_,_,rfl⟩
 | ok u i0=>
  rw [r1] at h1;dsimp only [AA];have DF:=(A6 hT hi (by decide) r1).2;have h2:=H4 (id:=id) (o:=o) (i:=i0) hR DF hT;have hl:=cL 1 1;rw [show Da 1 1=.mk 1 0 0 [] (1,1,[]) (0,[],[]) [] from rfl] at hl;simp only [CM,Bi] at hl;cases r2:CI L i0 with
  | out=>exact cS
  | bad t c=>
   rw [r2] at h2;obtain ⟨i',o',h2⟩:=h2;refine ⟨i',o',fun bx Ad hc e g1=>?_⟩;have t1:=Ab Ad hc hR h1;have t0:=Ab Ad hc hR (AJ (id:=id) (o:=o) hR DF);have t2:=At Ad hc hR h2;have g2:=g1;have g3:=g1;have hd:∀ k,id < bx.length+k:=fun k=>by omega
   have Dg:Aq [PV.bp (bx.length+2) 0,PV.bp bx.length 0]=false:=rfl;rw [hL];unfold Av;rw [<- B5];rw [<- Cu] at t1 t0 t2;simp only [opsOf,Aa,Ac,yW,yX] at |-;simp only [S9,AT,seval,PY,PZ,Aw,Al,g1,g2,g3,hd,hJ,Df,Dg,t1,t0,t2,SX,Ad];exact ⟨_,_,rfl⟩
  | ok nm i1=>
   rw [r2] at h2;dsimp only [AA];have B8:=(Dt hT DF r2).2;have Af:=cR _ rfl (id:=id) (L:=L) (RL:=Dh 52 (rs.map CW)) (i:=i1) (o:=o) hR (tokAt L i0) nm rs wx rs.length 0 (by omega);rw [zd] at Af;have EM:=wQ nm;cases hb:(rs.any fun r=>r.nm == nm) with
   | true=>
    rw [hb] at Af;simp only [if_true];unfold wP at Af;simp only [if_true] at Af;refine ⟨i1,o,fun bx Ad hc e g1=>?_⟩;cases rs with
    | nil=>cases hb
    | cons x rs=>
     have hd:∀ k,id < bx.length+k:=fun k=>by omega
     have Dg:Aq [PV.bp (bx.length+2) 0,PV.bp bx.length 0]=false:=rfl;have t1:=Ab Ad hc hR h1;have t0:=Ab Ad hc hR (AJ (id:=id) (o:=o) hR DF);have t2:=Ab Ad hc hR h2;have g2:=g1;have g3:=g1;have QC:=hc;have Af:=Af bx Ad hc [] hJ;rw [hL];simp only [Aa,Ac,yW,yX] at Af |-;unfold Av at Af |-;unfold wT zK at Af;simp only [DQ,Bi] at Af;simp only [yY,yZ,BF,BA,y3,y0] at Af t1 t0 t2 |-;rw [<- B5];rw [<- B5] at Af;rw [<- Cu] at t1 t0 t2 hl;simp only [S9,AT,seval,PY,PZ,Aw,Al,g1,hd,hJ,Dg,t1,t0,t2,hl,EM,Dn,SX,Ad];generalize hE:Rw _ _=z
     have hP:∃ e' ys',z=some (.pan (Cr (tokAt L i0).2.2 9),⟨e',BX bx id (Av L i1 o (Dh 52 (CW x :: rs.map CW))) ys'⟩):=by
      rw [<- hE];refine Af _ ?_ ?_ ?_ ?_ ?_ ?_
      · simp only [S7,AT,seval,g1]
      · simp only [S7,AT,seval,g1]
      · simp only [S7,AT,seval,g1]
      · exact Or.inr (by simp only [S7,AT,seval])
      · simp only [S7,AT,seval,y1];try rfl
      · simp only [S7,AT,seval];try rfl
     obtain ⟨e',ys',he⟩:=hP;subst he;clear hE Af;unfold Av atT;simp only [S9,AT,seval,PY,PZ,Aw,Al,SX,Ad];exact ⟨_,_,rfl⟩
   | false=>
    rw [hb] at Af;simp only [y4,if_false];unfold wP at Af;simp only [y4,if_false,zd] at Af
    have key:pF T1 id L (Dh 52 (rs.map CW)) o (tokAt L i0) (rs.map nY) i1 (.cells 52 (Ct nm 0 (.nils) (.nils) wT)) (fun r=>Dh 52 ((rs++[r]).map CW)) (H9 L n nm i1):=by
     simp only [List.map_append,yZ,yY];exact uh T1 vD hT _ fH (by rw [y1];exact wx) n ho nm (tokAt L i0) (cQ rs) B8
    revert key;generalize H9 L n nm i1=rr;intro key;generalize rs.map nY=KB at key Af;unfold wT zK at key;simp only [DQ,Bi] at key;cases rr with
    | out=>exact cS
    | bad t c=>
     obtain ⟨i',o',key⟩:=key;refine ⟨i',o',fun bx Ad hc e g1=>?_⟩;have key:=key bx Ad hc;cases rs with
     | nil=>
      simp only [yY,yZ,BF,BA] at key;have hd:∀ k,id < bx.length+k:=fun k=>by omega
      have Dg:Aq [PV.bp (bx.length+2) 0,PV.bp bx.length 0]=false:=rfl;have t1:=Ab Ad hc hR h1;have t0:=Ab Ad hc hR (AJ (id:=id) (o:=o) hR DF);have t2:=Ab Ad hc hR h2;have g2:=g1;have g3:=g1;have QC:=hc;have Af:=Af bx Ad hc [] hJ;rw [hL];simp only [Aa,Ac,yW,yX] at Af |-;unfold Av at Af |-;unfold wT zK at Af;simp only [DQ,Bi] at Af;simp only [yY,yZ,BF,BA,y3,y0] at Af t1 t0 t2 |-;rw [<- B5];rw [<- B5] at Af;rw [<- Cu] at t1 t0 t2 hl;simp only [S9,AT,seval,PY,PZ,Aw,Al,g1,hd,hJ,Dg,t1,t0,t2,hl,EM,Dn,SX,Ad];generalize hE:Rw _ _=z
      have hP:∃ e',z=some (.exit 0,⟨e',BX bx id (Av L i1 o (Dh 52 [])) (.cells 56 [.bp id 0] :: .cells 59 [.int .i64 ((tokAt L i0).1:Int),.str (tokAt L i0).2.1,.int .i64 ((tokAt L i0).2.2:Int)] :: .cells 52 [.str nm,.int .i64 0,.nils,.int .i64 1,.int .i64 0,.int .i64 0,.str [],.int .i64 1,.int .i64 1,.str [],.int .i64 0,.str [],.str [],.sl [],.nils] :: ([]++KB))⟩)/\getT e' 1=.bp bx.length 0/\getT e' 2=.bp (bx.length+1) 0/\getT e' 3=.bp (bx.length+2) 0:=by
       rw [<- hE];refine Af _ ?_ ?_ ?_ ?_ ?_ ?_
       · simp only [S7,AT,seval,g1]
       · simp only [S7,AT,seval,g1]
       · simp only [S7,AT,seval,g1]
       · exact Or.inl (by trivial)
       · simp only [S7,AT,seval];try rfl
       · simp only [S7,AT,seval];try rfl
      obtain ⟨e',he,k1,k2,k3⟩:=hP;subst he;clear hE Af;unfold Av at key |-;rw [<- B5] at key;simp only [S9,AT,seval,PY,PZ,Aw,Al,SX,Ad];exact key _ k1 k2 k3
     | cons x rs=>
      simp only [yY,yZ,BF,BA] at key;have hd:∀ k,id < bx.length+k:=fun k=>by omega
      have Dg:Aq [PV.bp (bx.length+2) 0,PV.bp bx.length 0]=false:=rfl;have t1:=Ab Ad hc hR h1;have t0:=Ab Ad hc hR (AJ (id:=id) (o:=o) hR DF);have t2:=Ab Ad hc hR h2;have g2:=g1;have g3:=g1;have QC:=hc;have Af:=Af bx Ad hc [] hJ;rw [hL];simp only [Aa,Ac,yW,yX] at Af |-;unfold Av at Af |-;unfold wT zK at Af;simp only [DQ,Bi] at Af;simp only [yY,yZ,BF,BA,y3,y0] at Af t1 t0 t2 |-;rw [<- B5];rw [<- B5] at Af;rw [<- Cu] at t1 t0 t2 hl;simp only [S9,AT,seval,PY,PZ,Aw,Al,g1,hd,hJ,Dg,t1,t0,t2,hl,EM,Dn,SX,Ad];generalize hE:Rw _ _=z
      have hP:∃ e',z=some (.exit 0,⟨e',BX bx id (Av L i1 o (Dh 52 (CW x :: rs.map CW))) (.cells 56 [.bp id 0] :: .cells 59 [.int .i64 ((tokAt L i0).1:Int),.str (tokAt L i0).2.1,.int .i64 ((tokAt L i0).2.2:Int)] :: .cells 52 [.str nm,.int .i64 0,.nils,.int .i64 1,.int .i64 0,.int .i64 0,.str [],.int .i64 1,.int .i64 1,.str [],.int .i64 0,.str [],.str [],.sl [],.nils] :: ([]++KB))⟩)/\getT e' 1=.bp bx.length 0/\getT e' 2=.bp (bx.length+1) 0/\getT e' 3=.bp (bx.length+2) 0:=by
       rw [<- hE];refine Af _ ?_ ?_ ?_ ?_ ?_ ?_
       · simp only [S7,AT,seval,g1]
       · simp only [S7,AT,seval,g1]
       · simp only [S7,AT,seval,g1]
       · exact Or.inr (by simp only [S7,AT,seval])
       · simp only [S7,AT,seval,y1];try rfl
       · simp only [S7,AT,seval];try rfl
      obtain ⟨e',he,k1,k2,k3⟩:=hP;subst he;clear hE Af;unfold Av at key |-;rw [<- B5] at key;simp only [S9,AT,seval,PY,PZ,Aw,Al,SX,Ad];exact key _ k1 k2 k3
    | ok v j=>
     refine fun bx Ad hc e g1=>?_;have key:=key bx Ad hc;generalize Dh 52 ((rs++[v]).map CW)=X at key |-;cases rs with
     | nil=>
      simp only [yY,yZ,BF,BA] at key;have hd:∀ k,id < bx.length+k:=fun k=>by omega
      have Dg:Aq [PV.bp (bx.length+2) 0,PV.bp bx.length 0]=false:=rfl;have t1:=Ab Ad hc hR h1;have t0:=Ab Ad hc hR (AJ (id:=id) (o:=o) hR DF);have t2:=Ab Ad hc hR h2;have g2:=g1;have g3:=g1;have QC:=hc;have Af:=Af bx Ad hc [] hJ;rw [hL];simp only [Aa,Ac,yW,yX] at Af |-;unfold Av at Af |-;unfold wT zK at Af;simp only [DQ,Bi] at Af;simp only [yY,yZ,BF,BA,y3,y0] at Af t1 t0 t2 |-;rw [<- B5];rw [<- B5] at Af;rw [<- Cu] at t1 t0 t2 hl;simp only [S9,AT,seval,PY,PZ,Aw,Al,g1,hd,hJ,Dg,t1,t0,t2,hl,EM,Dn,SX,Ad];generalize hE:Rw _ _=z
      have hP:∃ e',z=some (.exit 0,⟨e',BX bx id (Av L i1 o (Dh 52 [])) (.cells 56 [.bp id 0] :: .cells 59 [.int .i64 ((tokAt L i0).1:Int),.str (tokAt L i0).2.1,.int .i64 ((tokAt L i0).2.2:Int)] :: .cells 52 [.str nm,.int .i64 0,.nils,.int .i64 1,.int .i64 0,.int .i64 0,.str [],.int .i64 1,.int .i64 1,.str [],.int .i64 0,.str [],.str [],.sl [],.nils] :: ([]++KB))⟩)/\getT e' 1=.bp bx.length 0/\getT e' 2=.bp (bx.length+1) 0/\getT e' 3=.bp (bx.length+2) 0:=by
       rw [<- hE];refine Af _ ?_ ?_ ?_ ?_ ?_ ?_
       · simp only [S7,AT,seval,g1]
       · simp only [S7,AT,seval,g1]
       · simp only [S7,AT,seval,g1]
       · exact Or.inl (by trivial)
       · simp only [S7,AT,seval];try rfl
       · simp only [S7,AT,seval];try rfl
      obtain ⟨e',he,k1,k2,k3⟩:=hP;subst he;clear hE Af;unfold Av at key |-;rw [<- B5] at key;simp only [S9,AT,seval,PY,PZ,Aw,Al,SX,Ad];exact key _ k1 k2 k3
     | cons x rs=>
      simp only [yY,yZ,BF,BA] at key;have hd:∀ k,id < bx.length+k:=fun k=>by omega
      have Dg:Aq [PV.bp (bx.length+2) 0,PV.bp bx.length 0]=false:=rfl;have t1:=Ab Ad hc hR h1;have t0:=Ab Ad hc hR (AJ (id:=id) (o:=o) hR DF);have t2:=Ab Ad hc hR h2;have g2:=g1;have g3:=g1;have QC:=hc;have Af:=Af bx Ad hc [] hJ;rw [hL];simp only [Aa,Ac,yW,yX] at Af |-;unfold Av at Af |-;unfold wT zK at Af;simp only [DQ,Bi] at Af;simp only [yY,yZ,BF,BA,y3,y0] at Af t1 t0 t2 |-;rw [<- B5];rw [<- B5] at Af;rw [<- Cu] at t1 t0 t2 hl;simp only [S9,AT,seval,PY,PZ,Aw,Al,g1,hd,hJ,Dg,t1,t0,t2,hl,EM,Dn,SX,Ad];generalize hE:Rw _ _=z
      have hP:∃ e',z=some (.exit 0,⟨e',BX bx id (Av L i1 o (Dh 52 (CW x :: rs.map CW))) (.cells 56 [.bp id 0] :: .cells 59 [.int .i64 ((tokAt L i0).1:Int),.str (tokAt L i0).2.1,.int .i64 ((tokAt L i0).2.2:Int)] :: .cells 52 [.str nm,.int .i64 0,.nils,.int .i64 1,.int .i64 0,.int .i64 0,.str [],.int .i64 1,.int .i64 1,.str [],.int .i64 0,.str [],.str [],.sl [],.nils] :: ([]++KB))⟩)/\getT e' 1=.bp bx.length 0/\getT e' 2=.bp (bx.length+1) 0/\getT e' 3=.bp (bx.length+2) 0:=by
       rw [<- hE];refine Af _ ?_ ?_ ?_ ?_ ?_ ?_
       · simp only [S7,AT,seval,g1]
       · simp only [S7,AT,seval,g1]
       · simp only [S7,AT,seval,g1]
       · exact Or.inr (by simp only [S7,AT,seval])
       · simp only [S7,AT,seval,y1];try rfl
       · simp only [S7,AT,seval];try rfl
      obtain ⟨e',he,k1,k2,k3⟩:=hP;subst he;clear hE Af;unfold Av at key |-;rw [<- B5] at key;simp only [S9,AT,seval,PY,PZ,Aw,Al,SX,Ad];exact key _ k1 k2 k3
theorem Z8 {α β γ:Type} (r:PR α) (f:α->Nat->PR β) (g:β->Nat->PR γ):(r.bind f).bind g=r.bind fun a i=>(f a i).bind g:=by cases r <;> rfl
theorem LH (L:List Tk) (n:Nat) (rs:List Rl) (i:Nat):Jr L n rs i=if B2 L 1 [114,117,108,101] i=true/\rs.length=40 then .bad (atT L i) 3 else M9 L n rs i:=by
 unfold Jr M9 H9 LG;simp only [Z8,AA]
def uk (id:Nat) (L:List Tk) (rs:List Rl) (o i:Nat) (r:PR Rl):Prop:=match r with
 | .ok v j=>∀ B,Nt L i o (Dh 52 (rs.map CW)) id B->Ak CC (Ae CC) 19 [.bp id 0] B=some (.ret (.tup []),B.set id (Av L j o (Dh 52 ((rs++[v]).map CW))))
 | .bad t c=>∃ i' o',OC 19 [] id L (Dh 52 (rs.map CW)) i o t c i' o'
 | .out=>True
theorem kH {id:Nat} {L:List Tk} {o:Nat} (hT:TokOK L) (rs:List Rl) (wx:rs.length<=40) (n:Nat) (ho:o=0) {i:Nat} (hi:i < L.length):uk id L rs o i (Jr L n rs i):=by
 have fH:=map_pure CW Ej rs;have hR:=E5 52 _ fH;rw [LH];obtain ⟨T,vD⟩:∃ T,T=Aa yW [1,1]:=⟨_,rfl⟩;have CY:yW.body.getD .skip=.seq (Aa yW [0]) (.seq (Aa yW [1,0]) T):=by rw [vD];rfl
 have key:=uj T vD (id:=id) hT rs (by omega) n ho hi;cases hk:B2 L 1 [114,117,108,101] i with
 | false=>
  rw [if_neg (by simp)];revert key;generalize M9 L n rs i=rr;intro key;cases rr with
  | out=>trivial
  | bad t c=>
   obtain ⟨i',o',key⟩:=key;refine ⟨i',o',AF hR fun bx Ad hc=>?_⟩;have hd:∀ k,id < bx.length+k:=fun k=>by omega
   have tis:=Ab Ad hc hR (D1 (id:=id) (o:=o) hR hi 1 1 rfl [114,117,108,101]);rw [hk] at tis;have key:=key bx Ad hc;rw [BT rfl];rw [CY];unfold Av at|-key;rw [<- B5];rw [<- B5] at key;rw [<- Cu] at tis;simp only [opsOf,Aa,Ac,yW,yX] at |-;simp only [S9,AT,seval,PY,PZ,Aw,Al,hd,tis,SX,Ad];generalize hE:Rw T _=z
   have hP:∃ e' ys',z=some (.pan (Cr t c),⟨e',BX bx id (Av L i' o' (Dh 52 (rs.map CW))) ys'⟩):=by
    rw [<- hE];refine key _ ?_
    first | rfl | (simp only [S7,AT,seval];done) | (simp only [S7,AT,seval] <;> rfl)
   obtain ⟨e',ys',he⟩:=hP;subst he;clear hE key;unfold Av;simp only [S9,AT,seval,PY,PZ,Aw,Al,SX,Ad];exact ⟨_,rfl⟩
  | ok v j=>
   have hX:(Dh 52 ((rs++[v]).map CW)).pure=true:=E5 _ _ (map_pure CW Ej _);refine fun B hB=>KC (P:=Av L i o (Dh 52 (rs.map CW))) (by simp [Aq,PV.pure]) hB.1 hB.2 (BH L _ _ hX) (by simp [CR.under,PV.under,Au]) ?_;have Ad:=(y6.1 hB.2).1;have hc:=hB.1;clear hX;unfold ui at key;dsimp only at key;generalize Dh 52 ((rs++[v]).map CW)=X at key |-;generalize B=bx at *;have hd:∀ k,id < bx.length+k:=fun k=>by omega
   have tis:=Ab Ad hc hR (D1 (id:=id) (o:=o) hR hi 1 1 rfl [114,117,108,101]);rw [hk] at tis;have key:=key bx Ad hc;rw [BT rfl];rw [CY];unfold Av at|-key;rw [<- B5];rw [<- B5] at key;rw [<- Cu] at tis;simp only [opsOf,Aa,Ac,yW,yX] at |-;simp only [S9,AT,seval,PY,PZ,Aw,Al,hd,tis,SX,Ad];generalize hE:Rw T _=z
   have hP:∃ e' ys',z=some (.normal,⟨e',BX bx id (Av L j o X) ys'⟩):=by
    rw [<- hE];refine key _ ?_
    first | rfl | (simp only [S7,AT,seval];done) | (simp only [S7,AT,seval] <;> rfl)
   obtain ⟨e',ys',he⟩:=hP;subst he;clear hE key;unfold Av;simp only [S9,AT,seval,PY,PZ,Aw,Al,SX,Ad];exact ⟨_,rfl⟩
 | true=>
  cases rs with
  | nil=>
   rw [if_neg (by simp)];have Pd:(((0:Nat):Int) == 40)=false:=rfl;revert key;generalize M9 L n [] i=rr;intro key;cases rr with
   | out=>trivial
   | bad t c=>
    obtain ⟨i',o',key⟩:=key;refine ⟨i',o',AF hR fun bx Ad hc=>?_⟩;have hd:∀ k,id < bx.length+k:=fun k=>by omega
    have tis:=Ab Ad hc hR (D1 (id:=id) (o:=o) hR hi 1 1 rfl [114,117,108,101]);rw [hk] at tis;have key:=key bx Ad hc
    try simp only [yY,BF] at tis
    try simp only [yY,BF] at |-
    try simp only [yY,BF] at key
    rw [BT rfl];rw [CY];unfold Av at|-key;rw [<- B5];rw [<- B5] at key;rw [<- Cu] at tis;simp only [opsOf,Aa,Ac,yW,yX] at |-;simp only [S9,AT,seval,PY,PZ,Aw,Al,hd,tis,SX,Pd,Ad];generalize hE:Rw T _=z
    have hP:∃ e' ys',z=some (.pan (Cr t c),⟨e',BX bx id (Av L i' o' .nils) ys'⟩):=by
     rw [<- hE];refine key _ ?_
     first | rfl | (simp only [S7,AT,seval];done) | (simp only [S7,AT,seval] <;> rfl)
    obtain ⟨e',ys',he⟩:=hP;subst he;clear hE key;unfold Av;simp only [S9,AT,seval,PY,PZ,Aw,Al,SX,Ad];exact ⟨_,rfl⟩
   | ok v j=>
    have hX:(Dh 52 (([]++[v]).map CW)).pure=true:=E5 _ _ (map_pure CW Ej _);refine fun B hB=>KC (P:=Av L i o (Dh 52 ([].map CW))) (by simp [Aq,PV.pure]) hB.1 hB.2 (BH L _ _ hX) (by simp [CR.under,PV.under,Au]) ?_;have Ad:=(y6.1 hB.2).1;have hc:=hB.1;clear hX;unfold ui at key;dsimp only at key;generalize Dh 52 (([]++[v]).map CW)=X at key |-;generalize B=bx at *;have hd:∀ k,id < bx.length+k:=fun k=>by omega
    have tis:=Ab Ad hc hR (D1 (id:=id) (o:=o) hR hi 1 1 rfl [114,117,108,101]);rw [hk] at tis;have key:=key bx Ad hc
    try simp only [yY,BF] at tis
    try simp only [yY,BF] at |-
    try simp only [yY,BF] at key
    rw [BT rfl];rw [CY];unfold Av at|-key;rw [<- B5];rw [<- B5] at key;rw [<- Cu] at tis;simp only [opsOf,Aa,Ac,yW,yX] at |-;simp only [S9,AT,seval,PY,PZ,Aw,Al,hd,tis,SX,Pd,Ad];generalize hE:Rw T _=z
    have hP:∃ e' ys',z=some (.normal,⟨e',BX bx id (Av L j o X) ys'⟩):=by
     rw [<- hE];refine key _ ?_
     first | rfl | (simp only [S7,AT,seval];done) | (simp only [S7,AT,seval] <;> rfl)
    obtain ⟨e',ys',he⟩:=hP;subst he;clear hE key;unfold Av;simp only [S9,AT,seval,PY,PZ,Aw,Al,SX,Ad];exact ⟨_,rfl⟩
  | cons x rs=>
   by_cases mo:(x :: rs).length=40
   · rw [if_pos ⟨rfl,mo⟩]
     have Pd:((((rs.map CW).length+1:Nat):Int) == 40)=true:=by rw [y1];simp only [y0] at mo;rw [mo];rfl
     refine ⟨i,o,AF hR fun bx Ad hc=>?_⟩;have hd:∀ k,id < bx.length+k:=fun k=>by omega
     have tis:=Ab Ad hc hR (D1 (id:=id) (o:=o) hR hi 1 1 rfl [114,117,108,101]);rw [hk] at tis;have Gl:=fun e g1=>nV (id:=id) (L:=L) (i:=i) (o:=o) hR Ad hc hi e g1
     try simp only [yZ,BA] at tis
     try simp only [yZ,BA] at |-
     try simp only [yZ,BA] at Gl
     rw [BT rfl];rw [CY];simp only [<- AP ug] at Gl;unfold Av at|-Gl;rw [<- B5];rw [<- Fm] at Gl;rw [<- Cu] at tis;simp only [opsOf,Aa,Ac,yW,yX] at|-Gl;simp only [S9,AT,seval,PY,PZ,Aw,Al,hd,tis,SX,Pd,Gl,Ad];exact ⟨_,rfl⟩
   · rw [if_neg (fun h=>mo h.2)]
     have Pd:((((rs.map CW).length+1:Nat):Int) == 40)=false:=by rw [y1];simp only [y0] at mo;exact beq_eq_false_iff_ne.2 (by omega)
     revert key;generalize M9 L n (x :: rs) i=rr;intro key;cases rr with
     | out=>trivial
     | bad t c=>
      obtain ⟨i',o',key⟩:=key;refine ⟨i',o',AF hR fun bx Ad hc=>?_⟩;have hd:∀ k,id < bx.length+k:=fun k=>by omega
      have tis:=Ab Ad hc hR (D1 (id:=id) (o:=o) hR hi 1 1 rfl [114,117,108,101]);rw [hk] at tis;have key:=key bx Ad hc
      try simp only [yZ,BA] at tis
      try simp only [yZ,BA] at |-
      try simp only [yZ,BA] at key
      rw [BT rfl];rw [CY];unfold Av at|-key;rw [<- B5];rw [<- B5] at key;rw [<- Cu] at tis;simp only [opsOf,Aa,Ac,yW,yX] at |-;simp only [S9,AT,seval,PY,PZ,Aw,Al,hd,tis,SX,Pd,Ad];generalize hE:Rw T _=z
      have hP:∃ e' ys',z=some (.pan (Cr t c),⟨e',BX bx id (Av L i' o' (.osl 52 (CW x :: rs.map CW))) ys'⟩):=by
       rw [<- hE];refine key _ ?_
       first | rfl | (simp only [S7,AT,seval];done) | (simp only [S7,AT,seval] <;> rfl)
      obtain ⟨e',ys',he⟩:=hP;subst he;clear hE key;unfold Av;simp only [S9,AT,seval,PY,PZ,Aw,Al,SX,Ad];exact ⟨_,rfl⟩
     | ok v j=>
      have hX:(Dh 52 (((x :: rs)++[v]).map CW)).pure=true:=E5 _ _ (map_pure CW Ej _);refine fun B hB=>KC (P:=Av L i o (Dh 52 ((x :: rs).map CW))) (by simp [Aq,PV.pure]) hB.1 hB.2 (BH L _ _ hX) (by simp [CR.under,PV.under,Au]) ?_;have Ad:=(y6.1 hB.2).1;have hc:=hB.1;clear hX;unfold ui at key;dsimp only at key;generalize Dh 52 (((x :: rs)++[v]).map CW)=X at key |-;generalize B=bx at *;have hd:∀ k,id < bx.length+k:=fun k=>by omega
      have tis:=Ab Ad hc hR (D1 (id:=id) (o:=o) hR hi 1 1 rfl [114,117,108,101]);rw [hk] at tis;have key:=key bx Ad hc
      try simp only [yZ,BA] at tis
      try simp only [yZ,BA] at |-
      try simp only [yZ,BA] at key
      rw [BT rfl];rw [CY];unfold Av at|-key;rw [<- B5];rw [<- B5] at key;rw [<- Cu] at tis;simp only [opsOf,Aa,Ac,yW,yX] at |-;simp only [S9,AT,seval,PY,PZ,Aw,Al,hd,tis,SX,Pd,Ad];generalize hE:Rw T _=z
      have hP:∃ e' ys',z=some (.normal,⟨e',BX bx id (Av L j o X) ys'⟩):=by
       rw [<- hE];refine key _ ?_
       first | rfl | (simp only [S7,AT,seval];done) | (simp only [S7,AT,seval] <;> rfl)
      obtain ⟨e',ys',he⟩:=hP;subst he;clear hE key;unfold Av;simp only [S9,AT,seval,PY,PZ,Aw,Al,SX,Ad];exact ⟨_,rfl⟩
theorem TD:Bk CC y5 (y5.body.getD .skip)=true:=by kernel_rfl
theorem Rq:CC.P.funcs[17]?=some y5:=by kernel_rfl
theorem IK {x:List PV} {b:List PBox} (h:x.length.ble y5.ntmps=true):Ae CC 17 x b=CB CC y5.results.toList (Cp CC (y5.body.getD .skip) ⟨x,b⟩):=Ah (fn:=y5) (c:=y5.body.getD .skip) rfl rfl Rq rfl TD (Nat.le_of_ble_eq_true h)
theorem wR (t e:Int):Bp CC 54 [(0,.int .i64 t),(1,.int .i64 e)]=some (.agg [.int .i64 t,.int .i64 e]):=by kernel_rfl
theorem wS (xs:List PV):Bp CC 63 [(0,.sl xs)]=some (.agg [.sl xs,.int .i64 0,.int .i64 0,.nils]):=by kernel_rfl
theorem VF (s:List UInt8) (hs:s.length<=40000) (h0:(Bd s).2.2=0) (bx:List PBox):Ae CC 17 [.str s] bx=some (.ret (.bp bx.length 0),bx++[Av (Bd s).1 0 0 .nils]):=by
 have ht:=M6 s (by omega) bx;rw [h0] at ht;rw [IK rfl];unfold Av;generalize A2 (Bd s).1=xs at *;rw [<- Am];rw [<- AK] at ht;simp only [Aa,Ac,y5,yX];simp only [S9,Ag,seval,vT,ht,wS,C8,Al]
 try rfl
theorem LI (s:List UInt8) (hs:s.length<=40000) (h0:(Bd s).2.2≠0) (bx:List PBox):Ae CC 17 [.str s] bx=some (.pan (Cr (Bd s).2.1 (Bd s).2.2),bx):=by
 have ht:=M6 s (by omega) bx;have hz:((Bd s).2.2 != 0)=true:=by simp [bne_iff_ne,h0]
 rw [IK rfl];unfold Cr;generalize A2 (Bd s).1=xs at *;generalize (Bd s).2.2=er at *;generalize (Bd s).2.1=ta at *;rw [<- Am];rw [<- AK] at ht;simp only [Aa,Ac,y5,yX];simp only [S9,Ag,seval,vT,ht,hz,wR,kg,C8,Al]
 try rfl
end Go.HH
