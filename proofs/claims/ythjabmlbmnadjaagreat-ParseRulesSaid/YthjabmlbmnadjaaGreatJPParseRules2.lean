/-
  What the law needs, packed: GZ HA HC HD HG.
-/
import Derived.Test.YthjabmlbmnadjaaGreatJPParseRules1
open Go.Proofs.Tryz renaming f23->yW,f7->y7
open List renaming getD_cons_zero->yX,getD_cons_succ->yY,getElem?_cons_zero->yZ,getElem?_cons_succ->y0,length_cons->y2,getElem?_toArray->y3,map_cons->y5,all_cons->y6,length_nil->y8,all_nil->y9,map_append->y',map_nil->za,length_map->zd,length_append->ze,cons_append->zf,nil_append->zg,filterMap_cons->zi,filterMap_nil->zj,not_mem_nil->zl,mem_cons->zm,filter_cons->zn,exists_cons_of_ne_nil->zo
open Option renaming getD->y1
open Bool renaming and_self->y4,false_eq_true->zk
open Nat renaming le_of_ble_eq_true->zh
namespace Go.HH
open Go Go.Proofs
set_option maxRecDepth 100000
set_option maxHeartbeats 4000000
set_option linter.unusedSimpArgs false
set_option linter.unusedVariables false
theorem MQ:GY CC yW (yW.body.getD .skip)=true:=by kernel_rfl
theorem MR:Bk CC yW (yW.body.getD .skip)=false:=by kernel_rfl
theorem LW:CC.P.funcs[23]?=some yW:=by kernel_rfl
theorem Gg {x:List PV} {b:List PBox} (h:x.length.ble yW.ntmps=true):Ae CC 23 x b=CB CC yW.results.toList (Hg CC (yW.body.getD .skip) ⟨x,b⟩):=Ce (fn:=yW) (c:=yW.body.getD .skip) rfl rfl LW rfl MR MQ (zh h)
theorem Ha {co:FuncId->List PV->List PBox->Option (CR×List PBox)} {k:FuncId} {vs:List PV} {bx:List PBox} {id:Nat} {P P':PBox} {v:PV} (tys:Array TypeId) (a:PBox) (zs:List PBox) (t x:Nat) (d:Option Tmp) (e:List PV) (ht:tys.toList.any (Bh CC)=true) (hk:Aq vs=false) (hu:Au (bx.length+1) vs=true) (hc:C5 bx) (hP:P.under bx.length=true) (iS:P'.under bx.length=true) (p5:([a].all fun y=>y.under (bx.length+1))=true) (hv:v.under (bx.length+1)=true) (h:co k vs (BX bx id P [a])=some (.ret v,BX bx id P' [a])) :
 H2 CC co tys k vs d [(t,.box (bx.length+1) x)] ⟨e,BX bx id P (a :: zs)⟩=some (.next ((St.mk e (BX bx id P' (a :: zs))).put d v) (Ap [(t,.box (bx.length+1) x)] d)):=by
 rw [Pl CC co tys k vs d _ _ (bx.length+1) ht rfl (by rw [hk];simp) hu (by rw [Mc];have:=IZ (id:=id) (P:=P) (ys:=[a]) hc hP p5;unfold C5 at this;rw [E2] at this;exact this),Mc];rw [show (a :: zs).take 1=[a] from rfl,h];rw [Sh v _ _ _ _ _ _ (by rw [E2] <;> rfl) hv (by have:=IZ (id:=id) (P:=P') (ys:=[a]) hc iS p5;unfold C5 at this;rw [E2] at this;exact this)];rw [XT,cO];rfl
theorem dD:Cl CC (opsOf (Aa yW [1,1,1,1,1,0,0,0,1,0,1,1,0]))=false:=by kernel_rfl
theorem RO:Cc (opsOf (Aa yW [1,1,1,1,1,0,0,0,1,0,1,1,0]))=[[0,1,2,3,4,5,6,7],[0,2,1,3,4,5,6,7],[0,2,3,1,4,5,6,7],[0,2,3,4,1,5,6,7],[2,0,1,3,4,5,6,7],[2,0,3,1,4,5,6,7],[2,0,3,4,1,5,6,7],[2,3,0,1,4,5,6,7],[2,3,0,4,1,5,6,7],[2,3,4,0,1,5,6,7]]:=by kernel_rfl
theorem Yi {bx:List PBox} {id:Nat} {L:List Tk} {s s2:RS} {o:Nat} {Nm:PV} (hR:Nm.pure=true) (Ad:id < bx.length) (hc:C5 bx) (nm:List UInt8) (pr:Int) (dosV:PV) (EB:∀ n,dosV.under n=true) (et:Tr) (b0:PBox) (EM:∀ n,b0.under n=true) (e:List PV) (g0:getT e 0=.bp id 0) (g3:getT e 3=.bp (bx.length+1) 0)  (a:Tg) (h:CF 50 [] id L o o Nm s (BJ a) s2) :
 drawAll CC (Ae CC) (opsOf (Aa yW [1,1,1,1,1,0,0,0,1,0,1,1,0])) ⟨e,BX bx id (Be L s o Nm) [b0,.cells 52 (Ct nm pr .nils dosV et)]⟩=some (.normal,⟨(setT (setT (setT (setT (setT (setT (setT (setT e 33 (.bp (bx.length+1) 2)) 34 (.nils)) 35 (.bp id 0)) 36 (BJ a)) 37 (.osl 46 [BJ a])) 38 (.osl 46 [BJ a])) 39 (.bp (bx.length+1) 2)) 38 (.sl [BJ a])),BX bx id (Be L s2 o Nm) [b0,.cells 52 (Ct nm pr (.osl 46 [BJ a]) dosV et)]⟩):=by
 have t1:=Aj Ad hc hR h;have hd:∀ k,id < bx.length+k:=fun k=>by omega
 have hb:=sJ _ PW;obtain ⟨k,n,m,sn,v,q,kids⟩:=et;have hk:∀ n,Au n (BS kids)=true:=fun z=>AE z _ (By kids);have bn:([66]:List TypeId).toArray.toList.any (Bh CC)=true:=by kernel_rfl
 have FB:=vU a;have Jd:=fun st al l d=>D7 (bytes:=120) (size:=10) (e:=46) (st:=st) (al:=al) (l:=l) (d:=d) (xs:=[]) (ys:=[BJ a]) (by simp only [y2,y8];omega) (by decide) (by unfold BJ;rfl);refine AN.2 ⟨by rw [RO];simp,fun l hl=>?_⟩;rw [RO] at hl;unfold Ct Be;unfold BJ at *;rw [<- Ih];rw [<- Cu] at t1;simp only [zm,zl,or_false] at hl;rcases hl with rfl | rfl | rfl | rfl | rfl | rfl | rfl | rfl | rfl | rfl
 all_goals
  simp only [opsOf,Aa,Ac,yW,y1,A',zi,zj,y3,y0,yZ];simp only [S9,AT,seval,PY,Bv,PZ,Aw,Al,g0,g3,t1,hd,hb,hk,EB,EM,FB,Jd,SX,AR,Bm,yX,yY,Ad]
  try rw [Ar _ 37 33 _ _ (by decide)]
  try rw [Ar _ 36 33 _ _ (by decide)]
  try rw [Ar _ 35 33 _ _ (by decide)]
  try rw [Ar _ 37 34 _ _ (by decide)]
  try rw [Ar _ 36 34 _ _ (by decide)]
  try rw [Ar _ 35 34 _ _ (by decide)]
  try rfl
theorem Nb {bx:List PBox} {id:Nat} {L:List Tk} {s s2:RS} {o:Nat} {Nm:PV} (hR:Nm.pure=true) (Ad:id < bx.length) (hc:C5 bx) (nm:List UInt8) (pr:Int) (dosV:PV) (EB:∀ n,dosV.under n=true) (et:Tr) (b0:PBox) (EM:∀ n,b0.under n=true) (e:List PV) (g0:getT e 0=.bp id 0) (g3:getT e 3=.bp (bx.length+1) 0) (x0:PV) (xs:List PV) (mn:∀ n,x0.under n=true) (fw:∀ n,Au n xs=true) (s7:xs.length<=20) (a:Tg) (h:CF 50 [] id L o o Nm s (BJ a) s2) :
 drawAll CC (Ae CC) (opsOf (Aa yW [1,1,1,1,1,0,0,0,1,0,1,1,0])) ⟨e,BX bx id (Be L s o Nm) [b0,.cells 52 (Ct nm pr (.osl 46 (x0 :: xs)) dosV et)]⟩=some (.normal,⟨(setT (setT (setT (setT (setT (setT (setT (setT e 33 (.bp (bx.length+1) 2)) 34 (.sl (x0 :: xs))) 35 (.bp id 0)) 36 (BJ a)) 37 (.osl 46 [BJ a])) 38 (.osl 46 (x0 :: (xs++[BJ a])))) 39 (.bp (bx.length+1) 2)) 38 (.sl (x0 :: (xs++[BJ a])))),BX bx id (Be L s2 o Nm) [b0,.cells 52 (Ct nm pr (.osl 46 (x0 :: (xs++[BJ a]))) dosV et)]⟩):=by
 have t1:=Aj Ad hc hR h;have hd:∀ k,id < bx.length+k:=fun k=>by omega
 have hb:=sJ _ PW;obtain ⟨k,n,m,sn,v,q,kids⟩:=et;have hk:∀ n,Au n (BS kids)=true:=fun z=>AE z _ (By kids);have bn:([66]:List TypeId).toArray.toList.any (Bh CC)=true:=by kernel_rfl
 have FB:=vU a;have Jd:=fun st al l d=>D7 (bytes:=120) (size:=10) (e:=46) (st:=st) (al:=al) (l:=l) (d:=d) (xs:=x0 :: xs) (ys:=[BJ a]) (by simp only [y2,y8];omega) (by decide) (by unfold BJ;rfl);have Cz:=fun JG t1 e=>Ha (co:=JG) (k:=50) (vs:=[.bp id 0]) (bx:=bx) (id:=id) (P:=Be L s o Nm) (P':=Be L s2 o Nm) (v:=BJ a) #[66] b0 [.cells 52 (Ct nm pr (.osl 46 (x0 :: xs)) dosV (.mk k n m sn v q kids))] 34 2 (some 36) e bn rfl (by simp only [SU,SX,hd,decide_true]) hc (Cb L s o hR) (Cb L s2 o hR) (by simp only [y6,y9,EM,y4]) (BC _ a) t1;refine AN.2 ⟨by rw [RO];simp,fun l hl=>?_⟩;rw [RO] at hl;unfold Ct Be at|-Cz;unfold BJ at *;rw [<- Ih];rw [<- Cu] at t1;replace Cz:=fun e=>Cz JG (t1 [b0] (by simp only [y6,y9,EM,y4])) e;simp only [zm,zl,or_false] at hl;rcases hl with rfl | rfl | rfl | rfl | rfl | rfl | rfl | rfl | rfl | rfl
 all_goals
  simp only [opsOf,Aa,Ac,yW,y1,A',zi,zj,y3,y0,yZ];simp only [S9,AT,seval,PY,Bv,PZ,Aw,Al,g0,g3,t1,hd,hb,hk,EB,EM,FB,Jd,mn,fw,Cz,C0,C2,SX,AR,Bm,yX,yY,Ad]
  try rw [Ar _ 37 33 _ _ (by decide)]
  try rw [Ar _ 36 33 _ _ (by decide)]
  try rw [Ar _ 35 33 _ _ (by decide)]
  try rw [Ar _ 37 34 _ _ (by decide)]
  try rw [Ar _ 36 34 _ _ (by decide)]
  try rw [Ar _ 35 34 _ _ (by decide)]
  try rfl
theorem dE:Cl CC (opsOf (Aa yW [1,1,1,1,1,1,1,0,0,0,1,0,1,1,0]))=false:=by kernel_rfl
theorem RP:Cc (opsOf (Aa yW [1,1,1,1,1,1,1,0,0,0,1,0,1,1,0]))=[[0,1,2,3,4,5,6,7],[0,2,1,3,4,5,6,7],[0,2,3,1,4,5,6,7],[0,2,3,4,1,5,6,7],[2,0,1,3,4,5,6,7],[2,0,3,1,4,5,6,7],[2,0,3,4,1,5,6,7],[2,3,0,1,4,5,6,7],[2,3,0,4,1,5,6,7],[2,3,4,0,1,5,6,7]]:=by kernel_rfl
theorem Yj {bx:List PBox} {id:Nat} {L:List Tk} {s s2:RS} {o:Nat} {Nm:PV} (hR:Nm.pure=true) (Ad:id < bx.length) (hc:C5 bx) (nm:List UInt8) (pr:Int) (onV:PV) (EB:∀ n,onV.under n=true) (et:Tr) (b0:PBox) (EM:∀ n,b0.under n=true) (e:List PV) (g0:getT e 0=.bp id 0) (g3:getT e 3=.bp (bx.length+1) 0)  (a:Sp) (h:CF 51 [] id L o o Nm s (B1 a) s2) :
 drawAll CC (Ae CC) (opsOf (Aa yW [1,1,1,1,1,1,1,0,0,0,1,0,1,1,0])) ⟨e,BX bx id (Be L s o Nm) [b0,.cells 52 (Ct nm pr onV .nils et)]⟩=some (.normal,⟨(setT (setT (setT (setT (setT (setT (setT (setT e 65 (.bp (bx.length+1) 14)) 66 (.nils)) 67 (.bp id 0)) 68 (B1 a)) 69 (.osl 49 [B1 a])) 70 (.osl 49 [B1 a])) 71 (.bp (bx.length+1) 14)) 70 (.sl [B1 a])),BX bx id (Be L s2 o Nm) [b0,.cells 52 (Ct nm pr onV (.osl 49 [B1 a]) et)]⟩):=by
 have t1:=Aj Ad hc hR h;have hd:∀ k,id < bx.length+k:=fun k=>by omega
 have hb:=sK _ PX;obtain ⟨k,n,m,sn,v,q,kids⟩:=et;have hk:∀ n,Au n (BS kids)=true:=fun z=>AE z _ (By kids);have bn:([66]:List TypeId).toArray.toList.any (Bh CC)=true:=by kernel_rfl
 have FB:=vV a;have Jd:=fun st al l d=>D7 (bytes:=200) (size:=16) (e:=49) (st:=st) (al:=al) (l:=l) (d:=d) (xs:=[]) (ys:=[B1 a]) (by simp only [y2,y8];omega) (by decide) (by unfold B1;simp [PV.cells,IJ]);refine AN.2 ⟨by rw [RP];simp,fun l hl=>?_⟩;rw [RP] at hl;unfold Ct Be;unfold B1 at *;rw [<- Ih];rw [<- Cu] at t1;simp only [zm,zl,or_false] at hl;rcases hl with rfl | rfl | rfl | rfl | rfl | rfl | rfl | rfl | rfl | rfl
 all_goals
  simp only [opsOf,Aa,Ac,yW,y1,A',zi,zj,y3,y0,yZ];simp only [S9,AT,seval,PY,Bv,PZ,Aw,Al,g0,g3,t1,hd,hb,hk,EB,EM,FB,Jd,Jx,IJ,LB,SX,AR,Bm,yX,yY,Ad]
  try rw [Ar _ 69 65 _ _ (by decide)]
  try rw [Ar _ 68 65 _ _ (by decide)]
  try rw [Ar _ 67 65 _ _ (by decide)]
  try rw [Ar _ 69 66 _ _ (by decide)]
  try rw [Ar _ 68 66 _ _ (by decide)]
  try rw [Ar _ 67 66 _ _ (by decide)]
  try rfl
theorem Nc {bx:List PBox} {id:Nat} {L:List Tk} {s s2:RS} {o:Nat} {Nm:PV} (hR:Nm.pure=true) (Ad:id < bx.length) (hc:C5 bx) (nm:List UInt8) (pr:Int) (onV:PV) (EB:∀ n,onV.under n=true) (et:Tr) (b0:PBox) (EM:∀ n,b0.under n=true) (e:List PV) (g0:getT e 0=.bp id 0) (g3:getT e 3=.bp (bx.length+1) 0) (x0:PV) (xs:List PV) (mn:∀ n,x0.under n=true) (fw:∀ n,Au n xs=true) (s7:xs.length<=20) (a:Sp) (h:CF 51 [] id L o o Nm s (B1 a) s2) :
 drawAll CC (Ae CC) (opsOf (Aa yW [1,1,1,1,1,1,1,0,0,0,1,0,1,1,0])) ⟨e,BX bx id (Be L s o Nm) [b0,.cells 52 (Ct nm pr onV (.osl 49 (x0 :: xs)) et)]⟩=some (.normal,⟨(setT (setT (setT (setT (setT (setT (setT (setT e 65 (.bp (bx.length+1) 14)) 66 (.sl (x0 :: xs))) 67 (.bp id 0)) 68 (B1 a)) 69 (.osl 49 [B1 a])) 70 (.osl 49 (x0 :: (xs++[B1 a])))) 71 (.bp (bx.length+1) 14)) 70 (.sl (x0 :: (xs++[B1 a])))),BX bx id (Be L s2 o Nm) [b0,.cells 52 (Ct nm pr onV (.osl 49 (x0 :: (xs++[B1 a]))) et)]⟩):=by
 have t1:=Aj Ad hc hR h;have hd:∀ k,id < bx.length+k:=fun k=>by omega
 have hb:=sK _ PX;obtain ⟨k,n,m,sn,v,q,kids⟩:=et;have hk:∀ n,Au n (BS kids)=true:=fun z=>AE z _ (By kids);have bn:([66]:List TypeId).toArray.toList.any (Bh CC)=true:=by kernel_rfl
 have FB:=vV a;have Jd:=fun st al l d=>D7 (bytes:=200) (size:=16) (e:=49) (st:=st) (al:=al) (l:=l) (d:=d) (xs:=x0 :: xs) (ys:=[B1 a]) (by simp only [y2,y8];omega) (by decide) (by unfold B1;simp [PV.cells,IJ]);have Cz:=fun JG t1 e=>Ha (co:=JG) (k:=51) (vs:=[.bp id 0]) (bx:=bx) (id:=id) (P:=Be L s o Nm) (P':=Be L s2 o Nm) (v:=B1 a) #[66] b0 [.cells 52 (Ct nm pr onV (.osl 49 (x0 :: xs)) (.mk k n m sn v q kids))] 66 14 (some 68) e bn rfl (by simp only [SU,SX,hd,decide_true]) hc (Cb L s o hR) (Cb L s2 o hR) (by simp only [y6,y9,EM,y4]) (BP _ a) t1;refine AN.2 ⟨by rw [RP];simp,fun l hl=>?_⟩;rw [RP] at hl;unfold Ct Be at|-Cz;unfold B1 at *;rw [<- Ih];rw [<- Cu] at t1;replace Cz:=fun e=>Cz JG (t1 [b0] (by simp only [y6,y9,EM,y4])) e;simp only [zm,zl,or_false] at hl;rcases hl with rfl | rfl | rfl | rfl | rfl | rfl | rfl | rfl | rfl | rfl
 all_goals
  simp only [opsOf,Aa,Ac,yW,y1,A',zi,zj,y3,y0,yZ];simp only [S9,AT,seval,PY,Bv,PZ,Aw,Al,g0,g3,t1,hd,hb,hk,EB,EM,FB,Jd,Jx,IJ,LB,mn,fw,Cz,C0,C2,SX,AR,Bm,yX,yY,Ad]
  try rw [Ar _ 69 65 _ _ (by decide)]
  try rw [Ar _ 68 65 _ _ (by decide)]
  try rw [Ar _ 67 65 _ _ (by decide)]
  try rw [Ar _ 69 66 _ _ (by decide)]
  try rw [Ar _ 68 66 _ _ (by decide)]
  try rw [Ar _ 67 66 _ _ (by decide)]
  try rfl
def fm (L:List Tk) (Nm:PV) (bx:List PBox) (id o:Nat) (b0:PBox) (nm:List UInt8) (pr:Int) (dosV:PV) (et:Tr) (r:Option (List Tg×RS)) (z:Option (Ex×St)):Prop:=match r with
 | none=>True
 | some d=>∃ e',z=some (.exit 0,⟨e',BX bx id (Be L d.2 o Nm) [b0,.cells 52 (Ct nm pr (Dh 46 (d.1.map BJ)) dosV et)]⟩)/\getT e' 0=.bp id 0/\getT e' 2=.bp bx.length 0/\getT e' 3=.bp (bx.length+1) 0
theorem rC (Lc:Code) (hL:Lc=Aa yW [1,1,1,1,1,0,0]) {id:Nat} {L:List Tk} {o:Nat} {Nm:PV} (hR:Nm.pure=true) (hT:TokOK L) (bx:List PBox) (Ad:id < bx.length) (hc:C5 bx) (b0:PBox) (EM:∀ n,b0.under n=true) (nm:List UInt8) (pr:Int) (dosV:PV) (EB:∀ n,dosV.under n=true) (et:Tr):∀ (m:Nat) (acc:List Tg) (s:RS) (e:List PV),inv L s->acc.length+m<=20->getT e 0=.bp id 0->getT e 2=.bp bx.length 0->getT e 3=.bp (bx.length+1) 0 ->
 fm L Nm bx id o b0 nm pr dosV et (DO L [111,110] (Cn L) m acc s) (Hg CC Lc ⟨e,BX bx id (Be L s o Nm) [b0,.cells 52 (Ct nm pr (Dh 46 (acc.map BJ)) dosV et)]⟩):=by
 have pf:∀ kids n,Au n (BS kids)=true:=fun kids z=>AE z _ (By kids);intro m
 induction m with
 | zero=>intro acc s e _ _ _ _ _;trivial
 | succ m ih=>
  intro acc s e hi Yw g0 g2 g3;rw [DO,Eu (Aa yW [1,1,1,1,1,0,0,0]) hL];cases acc with
  | nil=>
   rw [if_pos (.inl rfl)];rw [if_neg (by simp)];have i1:inv L s:=hi;have i2:=Bc hT i1 (k:=1) [111,110] (by decide);have h1:=NY (id:=id) (o:=o) hR hT i2;cases z1:Cn L (As L s 1 [111,110]) with
   | none=>trivial
   | some d=>
    rw [z1,AB] at h1;rw [Kl];have i3:=G' hT i2 z1;have i4:=Bc hT i3 (k:=4) [59] (by decide);have key:=fun e=>ih ([]++[d.1]) (As L d.2 4 [59]) e i4 (by simp only [ze,y2,y8] at Yw |-;omega);have hd:=fun e g0 g3=>Yi hR Ad hc nm pr dosV EB et b0 EM e g0 g3 d.1 h1;simp only [<- AP dD] at hd;have u1:=Aj Ad hc hR (BN (o:=o) hR hT i1 1 1 rfl [111,110]);have u2:=Aj Ad hc hR (BN (o:=o) hR hT i3 4 4 rfl [59]);have mq:∀ n,(BJ d.1).under n=true:=fun n=>BC n d.1;clear h1 z1 i1 i2 i3 i4 ih;generalize As L d.2 4 [59]=r2 at *;generalize As L s 1 [111,110]=r1 at *;generalize DO L [111,110] (Cn L) m ([]++[d.1]) r2=zz at *;obtain ⟨k,n1,m1,sn,v,q,kids⟩:=et;have hk:=pf kids;simp only [zg,zf,y5,za,y',BF,BA] at key |-;simp only [Ct] at key hd |-;unfold Be at key hd |-;rw [<- B5] at key |-;rw [<- Cu] at u1 u2;rw [<- Fm] at hd;simp only [opsOf,Aa,Ac,yW,y1] at|-hd key;simp only [S9,AT,seval,PY,Bv,PZ,Aw,Al,g0,g2,g3,u1,u2,hd,EB,EM,hk,SX,yX,yY,mq,C2,Ad];refine key _ ?_ ?_ ?_
    all_goals simp only [S7,AT,seval,g0,g2,g3]
  | cons x0 xs=>
   cases hn:Bf L s 1 [111,110] with
   | false=>
    rw [if_neg (by simp)];have t0:=Aj Ad hc hR (Dy (o:=o) hR hi 1 1 rfl [111,110]);rw [hn] at t0;have l0:((((xs.map BJ).length+1:Nat):Int) == 0)=false:=beq_eq_false_iff_ne.2 (by omega);have ix:∀ n,Au n (BJ x0 :: xs.map BJ)=true:=fun n=>Bn BJ BC n (x0 :: xs);obtain ⟨k,n1,m1,sn,v,q,kids⟩:=et;have hk:=pf kids;unfold fm;simp only [y5,BA,Ct];unfold Be;have Ui:∀ k,id < bx.length+k:=fun k=>by omega
    have LY:=fun JG t e R0=>Ha (co:=JG) (k:=21) (vs:=[.bp id 0,.int .i64 1,.str [111,110]]) (bx:=bx) (id:=id) (P:=Be L s o Nm) (P':=Be L s o Nm) (v:=.bool false) #[66,3,9] b0 [R0] 18 2 (some 23) e (by kernel_rfl) rfl (by simp only [SU,SX,Ui,decide_true,y4]) hc (Cb L s o hR) (Cb L s o hR) (by simp only [y6,y9,EM,y4]) rfl t;unfold Be at LY;rw [<- B5];rw [<- Cu] at t0;replace LY:=fun e R0=>LY JG (t0 [b0] (by simp only [y6,y9,EM,y4])) e R0;simp only [opsOf,Aa,Ac,yW,y1] at |-;simp only [S9,AT,seval,PY,Bv,PZ,Aw,Al,g0,g2,g3,LY,C0,t0,EB,EM,hk,l0,ix,C2,SX,yX,yY,Ad];exact ⟨_,rfl,by simp only [S7,AT,seval,g0],by simp only [S7,AT,seval,g2],by simp only [S7,AT,seval,g3]⟩
   | true=>
    rw [if_pos (.inr rfl)];by_cases h8:(x0 :: xs).length=8
    · skip
      rw [if_pos h8];have i1:inv L (B9 L s 3):=CX hi (by decide);have i2:=Bc hT i1 (k:=1) [111,110] (by decide);have h1:=NY (id:=id) (o:=o) hR hT i2;cases z1:Cn L (As L (B9 L s 3) 1 [111,110]) with
      | none=>trivial
      | some d=>
       rw [z1,AB] at h1;rw [Kl];have i3:=G' hT i2 z1;have i4:=Bc hT i3 (k:=4) [59] (by decide);have key:=fun e=>ih ((x0 :: xs)++[d.1]) (As L d.2 4 [59]) e i4 (by simp only [ze,y2,y8] at Yw |-;omega);have hd:=fun e g0 g3=>Nb hR Ad hc nm pr dosV EB et b0 EM e g0 g3 (BJ x0) (xs.map BJ) (fun n=>BC n x0) (Bn BJ BC · xs) (by rw [zd];simp only [y2] at Yw;omega) d.1 h1;simp only [<- AP dD] at hd;have u1:=Aj Ad hc hR (BN (o:=o) hR hT i1 1 1 rfl [111,110]);have u2:=Aj Ad hc hR (BN (o:=o) hR hT i3 4 4 rfl [59]);have t0:=Aj Ad hc hR (Dy (o:=o) hR hi 1 1 rfl [111,110]);rw [hn] at t0;have u0:=Aj Ad hc hR (D8 (o:=o) hR hi 3)
       have l8:((((xs.map BJ).length+1:Nat):Int) == 8)=true:=by
        rw [zd];simp only [y2] at h8;rw [h8];rfl
       have l0:((((xs.map BJ).length+1:Nat):Int) == 0)=false:=beq_eq_false_iff_ne.2 (by omega);have ix:∀ n,Au n (BJ x0 :: xs.map BJ)=true:=fun n=>Bn BJ BC n (x0 :: xs);have mq:∀ n,(BJ d.1).under n=true:=fun n=>BC n d.1
       have sB:∀ n,Au n (BJ x0 :: (xs.map BJ++[BJ d.1]))=true:=fun n=>by
        have:=Bn BJ BC n (x0 :: (xs++[d.1]));rw [y5,y',y5,za] at this;exact this
       clear h1 z1 i1 i2 i3 i4 ih;generalize As L d.2 4 [59]=r2 at *;generalize As L (B9 L s 3) 1 [111,110]=r1 at *;generalize B9 L s 3=r0 at *;generalize DO L [111,110] (Cn L) m ((x0 :: xs)++[d.1]) r2=zz at *;obtain ⟨k,n1,m1,sn,v,q,kids⟩:=et;have hk:=pf kids;simp only [zg,zf,y5,za,y',BF,BA] at key |-;simp only [Ct] at key hd |-;unfold Be at key hd |-;have Ui:∀ k,id < bx.length+k:=fun k=>by omega
       have LY:=fun JG t e R0=>Ha (co:=JG) (k:=21) (vs:=[.bp id 0,.int .i64 1,.str [111,110]]) (bx:=bx) (id:=id) (P:=Be L s o Nm) (P':=Be L s o Nm) (v:=.bool true) #[66,3,9] b0 [R0] 18 2 (some 23) e (by kernel_rfl) rfl (by simp only [SU,SX,Ui,decide_true,y4]) hc (Cb L s o hR) (Cb L s o hR) (by simp only [y6,y9,EM,y4]) rfl t;unfold Be at LY;rw [<- B5] at key |-;rw [<- Cu] at u1 u2 t0 u0;replace LY:=fun e R0=>LY JG (t0 [b0] (by simp only [y6,y9,EM,y4])) e R0;rw [<- Fm] at hd;simp only [opsOf,Aa,Ac,yW,y1] at|-hd key;simp only [S9,AT,seval,PY,Bv,PZ,Aw,Al,g0,g2,g3,u1,u2,t0,u0,hd,EB,EM,hk,SX,yX,yY,l8,l0,ix,C2,mq,sB,LY,C0,Ad];refine key _ ?_ ?_ ?_
       all_goals simp only [S7,AT,seval,g0,g2,g3]
    · skip
      rw [if_neg h8];have i1:inv L s:=hi;have i2:=Bc hT i1 (k:=1) [111,110] (by decide);have h1:=NY (id:=id) (o:=o) hR hT i2;cases z1:Cn L (As L s 1 [111,110]) with
      | none=>trivial
      | some d=>
       rw [z1,AB] at h1;rw [Kl];have i3:=G' hT i2 z1;have i4:=Bc hT i3 (k:=4) [59] (by decide);have key:=fun e=>ih ((x0 :: xs)++[d.1]) (As L d.2 4 [59]) e i4 (by simp only [ze,y2,y8] at Yw |-;omega);have hd:=fun e g0 g3=>Nb hR Ad hc nm pr dosV EB et b0 EM e g0 g3 (BJ x0) (xs.map BJ) (fun n=>BC n x0) (Bn BJ BC · xs) (by rw [zd];simp only [y2] at Yw;omega) d.1 h1;simp only [<- AP dD] at hd;have u1:=Aj Ad hc hR (BN (o:=o) hR hT i1 1 1 rfl [111,110]);have u2:=Aj Ad hc hR (BN (o:=o) hR hT i3 4 4 rfl [59]);have t0:=Aj Ad hc hR (Dy (o:=o) hR hi 1 1 rfl [111,110]);rw [hn] at t0
       have l8:((((xs.map BJ).length+1:Nat):Int) == 8)=false:=by
        rw [zd];simp only [y2] at h8;exact beq_eq_false_iff_ne.2 (by omega)
       have l0:((((xs.map BJ).length+1:Nat):Int) == 0)=false:=beq_eq_false_iff_ne.2 (by omega);have ix:∀ n,Au n (BJ x0 :: xs.map BJ)=true:=fun n=>Bn BJ BC n (x0 :: xs);have mq:∀ n,(BJ d.1).under n=true:=fun n=>BC n d.1
       have sB:∀ n,Au n (BJ x0 :: (xs.map BJ++[BJ d.1]))=true:=fun n=>by
        have:=Bn BJ BC n (x0 :: (xs++[d.1]));rw [y5,y',y5,za] at this;exact this
       clear h1 z1 i1 i2 i3 i4 ih;generalize As L d.2 4 [59]=r2 at *;generalize As L s 1 [111,110]=r1 at *;generalize DO L [111,110] (Cn L) m ((x0 :: xs)++[d.1]) r2=zz at *;obtain ⟨k,n1,m1,sn,v,q,kids⟩:=et;have hk:=pf kids;simp only [zg,zf,y5,za,y',BF,BA] at key |-;simp only [Ct] at key hd |-;unfold Be at key hd |-;have Ui:∀ k,id < bx.length+k:=fun k=>by omega
       have LY:=fun JG t e R0=>Ha (co:=JG) (k:=21) (vs:=[.bp id 0,.int .i64 1,.str [111,110]]) (bx:=bx) (id:=id) (P:=Be L s o Nm) (P':=Be L s o Nm) (v:=.bool true) #[66,3,9] b0 [R0] 18 2 (some 23) e (by kernel_rfl) rfl (by simp only [SU,SX,Ui,decide_true,y4]) hc (Cb L s o hR) (Cb L s o hR) (by simp only [y6,y9,EM,y4]) rfl t;unfold Be at LY;rw [<- B5] at key |-;rw [<- Cu] at u1 u2 t0;replace LY:=fun e R0=>LY JG (t0 [b0] (by simp only [y6,y9,EM,y4])) e R0;rw [<- Fm] at hd;simp only [opsOf,Aa,Ac,yW,y1] at|-hd key;simp only [S9,AT,seval,PY,Bv,PZ,Aw,Al,g0,g2,g3,u1,u2,t0,hd,EB,EM,hk,SX,yX,yY,l8,l0,ix,C2,mq,sB,LY,C0,Ad];refine key _ ?_ ?_ ?_
       all_goals simp only [S7,AT,seval,g0,g2,g3]
def fp (L:List Tk) (Nm:PV) (bx:List PBox) (id o:Nat) (b0:PBox) (nm:List UInt8) (pr:Int) (onV:PV) (et:Tr) (r:Option (List Sp×RS)) (z:Option (Ex×St)):Prop:=match r with
 | none=>True
 | some d=>∃ e',z=some (.exit 2,⟨e',BX bx id (Be L d.2 o Nm) [b0,.cells 52 (Ct nm pr onV (Dh 49 (d.1.map B1)) et)]⟩)/\getT e' 0=.bp id 0/\getT e' 2=.bp bx.length 0/\getT e' 3=.bp (bx.length+1) 0
theorem rD (Lc:Code) (hL:Lc=Aa yW [1,1,1,1,1,1,1,0,0]) {id:Nat} {L:List Tk} {o:Nat} {Nm:PV} (hR:Nm.pure=true) (hT:TokOK L) {n:Nat} (Pb:12 * L.length+10<=n) (RR:o+n<=1000000) (bx:List PBox) (Ad:id < bx.length) (hc:C5 bx) (b0:PBox) (EM:∀ n,b0.under n=true) (nm:List UInt8) (pr:Int) (onV:PV) (EB:∀ n,onV.under n=true) (et:Tr):∀ (m:Nat) (acc:List Sp) (s:RS) (e:List PV),inv L s->acc.length+m<=20->getT e 0=.bp id 0->getT e 2=.bp bx.length 0->getT e 3=.bp (bx.length+1) 0 ->
 fp L Nm bx id o b0 nm pr onV et (DO L [100,111] (D6 L n o) m acc s) (Hg CC Lc ⟨e,BX bx id (Be L s o Nm) [b0,.cells 52 (Ct nm pr onV (Dh 49 (acc.map B1)) et)]⟩):=by
 have pf:∀ kids n,Au n (BS kids)=true:=fun kids z=>AE z _ (By kids);intro m
 induction m with
 | zero=>intro acc s e _ _ _ _ _;trivial
 | succ m ih=>
  intro acc s e hi Yw g0 g2 g3;rw [DO,Eu (Aa yW [1,1,1,1,1,1,1,0,0,0]) hL];cases acc with
  | nil=>
   rw [if_pos (.inl rfl)];rw [if_neg (by simp)];have i1:inv L s:=hi;have i2:=Bc hT i1 (k:=1) [100,111] (by decide);have h1:=Yb (id:=id) (o:=o) hR hT Pb RR i2;cases z1:D6 L n o (As L s 1 [100,111]) with
   | none=>trivial
   | some d=>
    rw [z1,AB] at h1;rw [Kl];have i3:=LS hT i2 z1;have i4:=Bc hT i3 (k:=4) [59] (by decide);have key:=fun e=>ih ([]++[d.1]) (As L d.2 4 [59]) e i4 (by simp only [ze,y2,y8] at Yw |-;omega);have hd:=fun e g0 g3=>Yj hR Ad hc nm pr onV EB et b0 EM e g0 g3 d.1 h1;simp only [<- AP dE] at hd;have u1:=Aj Ad hc hR (BN (o:=o) hR hT i1 1 1 rfl [100,111]);have u2:=Aj Ad hc hR (BN (o:=o) hR hT i3 4 4 rfl [59]);have mq:∀ n,(B1 d.1).under n=true:=fun n=>BP n d.1;clear h1 z1 i1 i2 i3 i4 ih;generalize As L d.2 4 [59]=r2 at *;generalize As L s 1 [100,111]=r1 at *;generalize DO L [100,111] (D6 L n o) m ([]++[d.1]) r2=zz at *;obtain ⟨k,n1,m1,sn,v,q,kids⟩:=et;have hk:=pf kids;simp only [zg,zf,y5,za,y',BF,BA] at key |-;simp only [Ct] at key hd |-;unfold Be at key hd |-;rw [<- B5] at key |-;rw [<- Cu] at u1 u2;rw [<- Fm] at hd;simp only [opsOf,Aa,Ac,yW,y1] at|-hd key;simp only [S9,AT,seval,PY,Bv,PZ,Aw,Al,g0,g2,g3,u1,u2,hd,EB,EM,hk,SX,yX,yY,mq,C2,Ad];refine key _ ?_ ?_ ?_
    all_goals simp only [S7,AT,seval,g0,g2,g3]
  | cons x0 xs=>
   cases hn:Bf L s 1 [100,111] with
   | false=>
    rw [if_neg (by simp)];have t0:=Aj Ad hc hR (Dy (o:=o) hR hi 1 1 rfl [100,111]);rw [hn] at t0;have l0:((((xs.map B1).length+1:Nat):Int) == 0)=false:=beq_eq_false_iff_ne.2 (by omega);have ix:∀ n,Au n (B1 x0 :: xs.map B1)=true:=fun n=>Bn B1 BP n (x0 :: xs);obtain ⟨k,n1,m1,sn,v,q,kids⟩:=et;have hk:=pf kids;unfold fp;simp only [y5,BA,Ct];unfold Be;have Ui:∀ k,id < bx.length+k:=fun k=>by omega
    have LY:=fun JG t e R0=>Ha (co:=JG) (k:=21) (vs:=[.bp id 0,.int .i64 1,.str [100,111]]) (bx:=bx) (id:=id) (P:=Be L s o Nm) (P':=Be L s o Nm) (v:=.bool false) #[66,3,9] b0 [R0] 50 14 (some 55) e (by kernel_rfl) rfl (by simp only [SU,SX,Ui,decide_true,y4]) hc (Cb L s o hR) (Cb L s o hR) (by simp only [y6,y9,EM,y4]) rfl t;unfold Be at LY;rw [<- B5];rw [<- Cu] at t0;replace LY:=fun e R0=>LY JG (t0 [b0] (by simp only [y6,y9,EM,y4])) e R0;simp only [opsOf,Aa,Ac,yW,y1] at |-;simp only [S9,AT,seval,PY,Bv,PZ,Aw,Al,g0,g2,g3,LY,C0,t0,EB,EM,hk,l0,ix,C2,SX,yX,yY,Ad];exact ⟨_,rfl,by simp only [S7,AT,seval,g0],by simp only [S7,AT,seval,g2],by simp only [S7,AT,seval,g3]⟩
   | true=>
    rw [if_pos (.inr rfl)];by_cases h8:(x0 :: xs).length=8
    · skip
      rw [if_pos h8];have i1:inv L (B9 L s 3):=CX hi (by decide);have i2:=Bc hT i1 (k:=1) [100,111] (by decide);have h1:=Yb (id:=id) (o:=o) hR hT Pb RR i2;cases z1:D6 L n o (As L (B9 L s 3) 1 [100,111]) with
      | none=>trivial
      | some d=>
       rw [z1,AB] at h1;rw [Kl];have i3:=LS hT i2 z1;have i4:=Bc hT i3 (k:=4) [59] (by decide);have key:=fun e=>ih ((x0 :: xs)++[d.1]) (As L d.2 4 [59]) e i4 (by simp only [ze,y2,y8] at Yw |-;omega);have hd:=fun e g0 g3=>Nc hR Ad hc nm pr onV EB et b0 EM e g0 g3 (B1 x0) (xs.map B1) (fun n=>BP n x0) (Bn B1 BP · xs) (by rw [zd];simp only [y2] at Yw;omega) d.1 h1;simp only [<- AP dE] at hd;have u1:=Aj Ad hc hR (BN (o:=o) hR hT i1 1 1 rfl [100,111]);have u2:=Aj Ad hc hR (BN (o:=o) hR hT i3 4 4 rfl [59]);have t0:=Aj Ad hc hR (Dy (o:=o) hR hi 1 1 rfl [100,111]);rw [hn] at t0;have u0:=Aj Ad hc hR (D8 (o:=o) hR hi 3)
       have l8:((((xs.map B1).length+1:Nat):Int) == 8)=true:=by
        rw [zd];simp only [y2] at h8;rw [h8];rfl
       have l0:((((xs.map B1).length+1:Nat):Int) == 0)=false:=beq_eq_false_iff_ne.2 (by omega);have ix:∀ n,Au n (B1 x0 :: xs.map B1)=true:=fun n=>Bn B1 BP n (x0 :: xs);have mq:∀ n,(B1 d.1).under n=true:=fun n=>BP n d.1
       have sB:∀ n,Au n (B1 x0 :: (xs.map B1++[B1 d.1]))=true:=fun n=>by
        have:=Bn B1 BP n (x0 :: (xs++[d.1]));rw [y5,y',y5,za] at this;exact this
       clear h1 z1 i1 i2 i3 i4 ih;generalize As L d.2 4 [59]=r2 at *;generalize As L (B9 L s 3) 1 [100,111]=r1 at *;generalize B9 L s 3=r0 at *;generalize DO L [100,111] (D6 L n o) m ((x0 :: xs)++[d.1]) r2=zz at *;obtain ⟨k,n1,m1,sn,v,q,kids⟩:=et;have hk:=pf kids;simp only [zg,zf,y5,za,y',BF,BA] at key |-;simp only [Ct] at key hd |-;unfold Be at key hd |-;have Ui:∀ k,id < bx.length+k:=fun k=>by omega
       have LY:=fun JG t e R0=>Ha (co:=JG) (k:=21) (vs:=[.bp id 0,.int .i64 1,.str [100,111]]) (bx:=bx) (id:=id) (P:=Be L s o Nm) (P':=Be L s o Nm) (v:=.bool true) #[66,3,9] b0 [R0] 50 14 (some 55) e (by kernel_rfl) rfl (by simp only [SU,SX,Ui,decide_true,y4]) hc (Cb L s o hR) (Cb L s o hR) (by simp only [y6,y9,EM,y4]) rfl t;unfold Be at LY;rw [<- B5] at key |-;rw [<- Cu] at u1 u2 t0 u0;replace LY:=fun e R0=>LY JG (t0 [b0] (by simp only [y6,y9,EM,y4])) e R0;rw [<- Fm] at hd;simp only [opsOf,Aa,Ac,yW,y1] at|-hd key;simp only [S9,AT,seval,PY,Bv,PZ,Aw,Al,g0,g2,g3,u1,u2,t0,u0,hd,EB,EM,hk,SX,yX,yY,l8,l0,ix,C2,mq,sB,LY,C0,Ad];refine key _ ?_ ?_ ?_
       all_goals simp only [S7,AT,seval,g0,g2,g3]
    · skip
      rw [if_neg h8];have i1:inv L s:=hi;have i2:=Bc hT i1 (k:=1) [100,111] (by decide);have h1:=Yb (id:=id) (o:=o) hR hT Pb RR i2;cases z1:D6 L n o (As L s 1 [100,111]) with
      | none=>trivial
      | some d=>
       rw [z1,AB] at h1;rw [Kl];have i3:=LS hT i2 z1;have i4:=Bc hT i3 (k:=4) [59] (by decide);have key:=fun e=>ih ((x0 :: xs)++[d.1]) (As L d.2 4 [59]) e i4 (by simp only [ze,y2,y8] at Yw |-;omega);have hd:=fun e g0 g3=>Nc hR Ad hc nm pr onV EB et b0 EM e g0 g3 (B1 x0) (xs.map B1) (fun n=>BP n x0) (Bn B1 BP · xs) (by rw [zd];simp only [y2] at Yw;omega) d.1 h1;simp only [<- AP dE] at hd;have u1:=Aj Ad hc hR (BN (o:=o) hR hT i1 1 1 rfl [100,111]);have u2:=Aj Ad hc hR (BN (o:=o) hR hT i3 4 4 rfl [59]);have t0:=Aj Ad hc hR (Dy (o:=o) hR hi 1 1 rfl [100,111]);rw [hn] at t0
       have l8:((((xs.map B1).length+1:Nat):Int) == 8)=false:=by
        rw [zd];simp only [y2] at h8;exact beq_eq_false_iff_ne.2 (by omega)
       have l0:((((xs.map B1).length+1:Nat):Int) == 0)=false:=beq_eq_false_iff_ne.2 (by omega);have ix:∀ n,Au n (B1 x0 :: xs.map B1)=true:=fun n=>Bn B1 BP n (x0 :: xs);have mq:∀ n,(B1 d.1).under n=true:=fun n=>BP n d.1
       have sB:∀ n,Au n (B1 x0 :: (xs.map B1++[B1 d.1]))=true:=fun n=>by
        have:=Bn B1 BP n (x0 :: (xs++[d.1]));rw [y5,y',y5,za] at this;exact this
       clear h1 z1 i1 i2 i3 i4 ih;generalize As L d.2 4 [59]=r2 at *;generalize As L s 1 [100,111]=r1 at *;generalize DO L [100,111] (D6 L n o) m ((x0 :: xs)++[d.1]) r2=zz at *;obtain ⟨k,n1,m1,sn,v,q,kids⟩:=et;have hk:=pf kids;simp only [zg,zf,y5,za,y',BF,BA] at key |-;simp only [Ct] at key hd |-;unfold Be at key hd |-;have Ui:∀ k,id < bx.length+k:=fun k=>by omega
       have LY:=fun JG t e R0=>Ha (co:=JG) (k:=21) (vs:=[.bp id 0,.int .i64 1,.str [100,111]]) (bx:=bx) (id:=id) (P:=Be L s o Nm) (P':=Be L s o Nm) (v:=.bool true) #[66,3,9] b0 [R0] 50 14 (some 55) e (by kernel_rfl) rfl (by simp only [SU,SX,Ui,decide_true,y4]) hc (Cb L s o hR) (Cb L s o hR) (by simp only [y6,y9,EM,y4]) rfl t;unfold Be at LY;rw [<- B5] at key |-;rw [<- Cu] at u1 u2 t0;replace LY:=fun e R0=>LY JG (t0 [b0] (by simp only [y6,y9,EM,y4])) e R0;rw [<- Fm] at hd;simp only [opsOf,Aa,Ac,yW,y1] at|-hd key;simp only [S9,AT,seval,PY,Bv,PZ,Aw,Al,g0,g2,g3,u1,u2,t0,hd,EB,EM,hk,SX,yX,yY,l8,l0,ix,C2,mq,sB,LY,C0,Ad];refine key _ ?_ ?_ ?_
       all_goals simp only [S7,AT,seval,g0,g2,g3]
theorem dF {α:Type} {L:List Tk} {w:List UInt8} {part:RS->Option (α×RS)}:∀ (m:Nat) (acc:List α) (s:RS) (d:List α×RS),DO L w part m acc s=some d->d.1≠[]
 | 0,_,_,_,h=>by cases h
 | m+1,acc,s,d,h=>by
  rw [DO] at h;split at h
  · cases hp:part (As L (if acc.length=8 then B9 L s 3 else s) 1 w) with
    | none=>rw [hp] at h;cases h
    | some x=>rw [hp,Kl] at h;exact dF m _ _ d h
  · rename_i hc
    injection h with h
    subst h;intro h0;exact hc (.inl (by rw [show acc=[] from h0] <;> rfl))
theorem LX {α:Type} {L:List Tk} (hT:TokOK L) {w:List UInt8} {part:RS->Option (α×RS)} (hp:∀ s a s2,inv L s->part s=some (a,s2)->inv L s2):∀ (m:Nat) (acc:List α) (s:RS) (d:List α×RS),inv L s->DO L w part m acc s=some d->inv L d.2
 | 0,_,_,_,_,h=>by cases h
 | m+1,acc,s,d,hi,h=>by
  rw [DO] at h;split at h
  · have i1:inv L (if acc.length=8 then B9 L s 3 else s):=by
     split
     · exact CX hi (by decide)
     · exact hi
    have i2:=Bc hT i1 (k:=1) w (by decide);cases hx:part (As L (if acc.length=8 then B9 L s 3 else s) 1 w) with
    | none=>rw [hx] at h;cases h
    | some x=>
     rw [hx,Kl] at h;exact LX hT hp m _ _ d (Bc hT (hp _ _ _ i2 hx) (k:=4) [59] (by decide)) h
  · injection h with h
    subst h;exact hi
noncomputable def mw:List PV:=[.str [],.int .i64 0,.nils,.int .i64 0,.int .i64 0,.int .i64 0,.str [],.int .i64 0,.int .i64 0,.str [],.int .i64 0,.str [],.str [],.nils,.nils]
theorem pQ (n:Nat):(PBox.cells 52 mw).under n=true:=by simp [mw,PBox.under,Au,PV.under]
def v7 (T:Code) (id:Nat) (L:List Tk) (Nm:PV) (o:Nat) (s:RS) (R0:List PV) (r:Option (Rl×RS)):Prop:=match r with
 | none=>True
 | some d=>∀ (bx:List PBox) (Ad:id < bx.length) (hc:C5 bx) (e:List PV),getT e 0=.bp id 0->getT e 2=.bp bx.length 0->getT e 3=.bp (bx.length+1) 0->∃ e' R1,Hg CC T ⟨e,BX bx id (Be L s o Nm) [.cells 52 mw,.cells 52 R0]⟩=some (.ret,⟨e',BX bx id (Be L d.2 o Nm) [.cells 52 (Ct d.1.nm d.1.pr (.sl (d.1.on.map BJ)) (.sl (d.1.dos.map B1)) d.1.ife),R1]⟩)/\getT e' 2=.bp bx.length 0
theorem yQ (T:Code) (hL:T=Aa yW [1,1,1,1,1,1,1,1]) {id:Nat} {L:List Tk} {o:Nat} {Nm:PV} (hR:Nm.pure=true) (hT:TokOK L) (nm:List UInt8) (pr:Int) (on:List Tg) (et:Tr) (dos:List Sp) (ho:on≠[]) (hds:dos≠[]) {s:RS} (hi:inv L s) :
 v7 T id L Nm o s (Ct nm pr (Dh 46 (on.map BJ)) (Dh 49 (dos.map B1)) et) (some (⟨nm,pr,on,et,dos⟩,As L s 4 [125])):=by
 intro bx Ad hc e g0 g2 g3;have u1:=Aj Ad hc hR (BN (o:=o) hR hT hi 4 4 rfl [125]);obtain ⟨x,on,rfl⟩:=zo ho;obtain ⟨y,dos,rfl⟩:=zo hds;have Yx:∀ n,Au n (BJ x :: on.map BJ)=true:=fun n=>Bn BJ BC n (x :: on);have EB:∀ n,Au n (B1 y :: dos.map B1)=true:=fun n=>Bn B1 BP n (y :: dos);simp only [y5,BA];generalize BJ x :: on.map BJ=ons at *;generalize B1 y :: dos.map B1=dss at *;obtain ⟨k,n1,m1,sn,v,q,kids⟩:=et;have hk:∀ n,Au n (BS kids)=true:=fun z=>AE z _ (By kids);have Ui:∀ k,id < bx.length+k:=fun k=>by omega
 simp only [Ct];generalize As L s 4 [125]=r2 at *;rw [hL];unfold Be mw;rw [<- B5];rw [<- Cu] at u1;simp only [opsOf,Aa,Ac,yW,y1] at |-;simp only [S9,AT,seval,PY,Bv,PZ,Aw,Al,g0,g2,g3,u1,Yx,EB,hk,Ui,C2,SX,yX,yY,Ad];exact ⟨_,_,rfl,by simp only [S7,AT,seval,g2]⟩
theorem yE (T:Code) (hL:T=Aa yW [1,1,1,1,1,1,1]) {id:Nat} {L:List Tk} {o:Nat} {Nm:PV} (hR:Nm.pure=true) (hT:TokOK L) {n:Nat} (Pb:12 * L.length+10<=n) (RR:o+n<=1000000) (nm:List UInt8) (pr:Int) (on:List Tg) (et:Tr) (ho:on≠[]) {s:RS} (hi:inv L s) :
 v7 T id L Nm o s (Ct nm pr (Dh 46 (on.map BJ)) .nils et) (ob (DO L [100,111] (D6 L n o) 11 [] s) fun dos s=>some (⟨nm,pr,on,et,dos⟩,As L s 4 [125])):=by
 obtain ⟨Lc,p8⟩:∃ Lc,Lc=Aa yW [1,1,1,1,1,1,1,0,0]:=⟨_,rfl⟩;obtain ⟨T8,hT8⟩:∃ T8,T8=Aa yW [1,1,1,1,1,1,1,1]:=⟨_,rfl⟩;have CY:Aa yW [1,1,1,1,1,1,1]=.seq (.block 2 Lc) T8:=by rw [p8,hT8];rfl
 have Yx:∀ n,(Dh 46 (on.map BJ)).under n=true:=fun n=>Ei _ _ _ (Bn BJ BC n on);cases z:DO L [100,111] (D6 L n o) 11 [] s with
 | none=>trivial
 | some d=>
  rw [Kl];intro bx Ad hc e g0 g2 g3;have hl:=rD Lc p8 hR hT Pb RR bx Ad hc (.cells 52 mw) pQ nm pr (Dh 46 (on.map BJ)) Yx et 11 [] s e hi (zh rfl) g0 g2 g3;rw [z] at hl;obtain ⟨e1,hl,k0,k2,k3⟩:=hl;obtain ⟨e2,R1,h8,r2⟩:=yQ T8 hT8 (o:=o) hR hT nm pr on et d.1 ho (dF _ _ _ _ z) (LX hT (fun s a s2 hi h=>LS hT hi h) _ _ _ _ hi z) bx Ad hc e1 k0 k2 k3;refine ⟨e2,R1,?_,r2⟩;rw [hL,CY];unfold Hg at *;rw [K8,HV];simp only [za,BF] at hl;rw [hl];exact h8
theorem yR (T:Code) (hL:T=Aa yW [1,1,1,1,1,1]) {id:Nat} {L:List Tk} {o:Nat} {Nm:PV} (hR:Nm.pure=true) (hT:TokOK L) {n:Nat} (Pb:12 * L.length+10<=n) (RR:o+n<=1000000) (nm:List UInt8) (pr:Int) (on:List Tg) (ho:on≠[]) {s:RS} (hi:inv L s) :
 v7 T id L Nm o s (Ct nm pr (Dh 46 (on.map BJ)) .nils wT) (ob (if Bf L s 1 [105,102] then ob (CS L n o (BZ s)) (fun e s=>some (e,As L s 4 [59])) else some (wT,s)) fun e s=>ob (DO L [100,111] (D6 L n o) 11 [] s) fun dos s=>some (⟨nm,pr,on,e,dos⟩,As L s 4 [125])):=by
 obtain ⟨T7,yh⟩:∃ T7,T7=Aa yW [1,1,1,1,1,1,1]:=⟨_,rfl⟩;have CY:Aa yW [1,1,1,1,1,1]=.seq (Aa yW [1,1,1,1,1,1,0]) T7:=by rw [yh];rfl
 have Yx:∀ n,(Dh 46 (on.map BJ)).under n=true:=fun n=>Ei _ _ _ (Bn BJ BC n on);rw [CY] at hL;cases n0:Bf L s 1 [105,102] with
 | false=>
  simp only [zk,if_false,Ye];have h7:=yE T7 yh (id:=id) (o:=o) hR hT Pb RR nm pr on wT ho hi;revert h7;generalize (ob (DO L [100,111] (D6 L n o) 11 [] s) fun dos s=>some ((⟨nm,pr,on,wT,dos⟩:Rl),As L s 4 [125]))=rr;intro h7;cases rr with
  | none=>trivial
  | some d=>
   intro bx Ad hc e g0 g2 g3;have h7:=h7 bx Ad hc;have t0:=Aj Ad hc hR (Ay (o:=o) hR hT hi 1 1 rfl [105,102]);unfold Cx at t0;rw [n0] at t0;simp only [zk,if_false] at t0;have Ui:∀ k,id < bx.length+k:=fun k=>by omega
   rw [show wT=.mk 1 0 0 [] (1,1,[]) (0,[],[]) [] from rfl] at h7 |-;simp only [Ct,Bi] at h7 |-;generalize Dh 46 (on.map BJ)=ons at *;rw [hL];unfold Be mw at h7 |-;rw [<- B5] at h7 |-;rw [<- Cu] at t0;simp only [opsOf,Aa,Ac,yW,y1] at |-;simp only [S9,AT,seval,PY,Bv,PZ,Aw,Al,g0,g2,g3,t0,Yx,Ui,SX,yX,yY,Ad];refine h7 _ ?_ ?_ ?_
   all_goals simp only [S7,AT,seval,g0,g2,g3]
 | true=>
  simp only [if_true];have ia:=Bj hT hi (by decide) n0
  have c0:(BZ s).c=0:=by
   unfold Bf at n0;simp only [Bool.and_eq_true,beq_iff_eq] at n0;exact n0.1
  have hw:=P8 (id:=id) (o:=o) hR hT c0 ia Pb RR;cases z:CS L n o (BZ s) with
  | none=>trivial
  | some w=>
   rw [z,AB] at hw;rw [Kl,Ye];have iw:=HL hT ia z;have i2:=Bc hT iw (k:=4) [59] (by decide);have h7:=yE T7 yh (id:=id) (o:=o) hR hT Pb RR nm pr on w.1 ho i2;revert h7;generalize (ob (DO L [100,111] (D6 L n o) 11 [] (As L w.2 4 [59])) fun dos s=>some ((⟨nm,pr,on,w.1,dos⟩:Rl),As L s 4 [125]))=rr;intro h7;cases rr with
   | none=>trivial
   | some d=>
    intro bx Ad hc e g0 g2 g3;have h7:=h7 bx Ad hc;have t0:=Aj Ad hc hR (Ay (o:=o) hR hT hi 1 1 rfl [105,102]);unfold Cx at t0;rw [n0] at t0;simp only [if_true] at t0;have t1:=Aj Ad hc hR hw;have t2:=Aj Ad hc hR (BN (o:=o) hR hT iw 4 4 rfl [59]);have Ui:∀ k,id < bx.length+k:=fun k=>by omega
    generalize As L w.2 4 [59]=r2 at *;obtain ⟨⟨k,n1,m1,sn,v,q,kids⟩,r1⟩:=w;have hk:∀ n,Au n (BS kids)=true:=fun z=>AE z _ (By kids);simp only [CM] at t1;rw [show wT=.mk 1 0 0 [] (1,1,[]) (0,[],[]) [] from rfl];simp only [Ct,Bi] at h7 |-;generalize Dh 46 (on.map BJ)=ons at *;rw [hL];unfold Be mw at h7 |-;rw [<- B5] at h7 |-;rw [<- Cu] at t0 t1 t2;simp only [opsOf,Aa,Ac,yW,y1] at |-;simp only [S9,AT,seval,PY,Bv,PZ,Aw,Al,g0,g2,g3,t0,t1,t2,Yx,hk,Ui,SX,yX,yY,Ad];refine h7 _ ?_ ?_ ?_
    all_goals simp only [S7,AT,seval,g0,g2,g3]
theorem yF (T:Code) (hL:T=Aa yW [1,1,1,1,1]) {id:Nat} {L:List Tk} {o:Nat} {Nm:PV} (hR:Nm.pure=true) (hT:TokOK L) {n:Nat} (Pb:12 * L.length+10<=n) (RR:o+n<=1000000) (nm:List UInt8) (pr:Int) {s:RS} (hi:inv L s) :
 v7 T id L Nm o s (Ct nm pr .nils .nils wT) (ob (DO L [111,110] (Cn L) 11 [] s) fun on s=>ob (if Bf L s 1 [105,102] then ob (CS L n o (BZ s)) (fun e s=>some (e,As L s 4 [59])) else some (wT,s)) fun e s=>ob (DO L [100,111] (D6 L n o) 11 [] s) fun dos s=>some (⟨nm,pr,on,e,dos⟩,As L s 4 [125])):=by
 obtain ⟨Lc,p8⟩:∃ Lc,Lc=Aa yW [1,1,1,1,1,0,0]:=⟨_,rfl⟩;obtain ⟨T6,p7⟩:∃ T6,T6=Aa yW [1,1,1,1,1,1]:=⟨_,rfl⟩;have CY:Aa yW [1,1,1,1,1]=.seq (.block 0 Lc) T6:=by rw [p8,p7];rfl
 cases z:DO L [111,110] (Cn L) 11 [] s with
 | none=>trivial
 | some d=>
  rw [Kl];have ho:=dF _ _ _ _ z;have i2:=LX hT (fun s a s2 hi h=>G' hT hi h) _ _ _ _ hi z;have h6:=yR T6 p7 (id:=id) (o:=o) hR hT Pb RR nm pr d.1 ho i2;revert h6;generalize (ob (if Bf L d.2 1 [105,102] then ob (CS L n o (BZ d.2)) (fun e s=>some (e,As L s 4 [59])) else some (wT,d.2)) fun e s=>ob (DO L [100,111] (D6 L n o) 11 [] s) fun dos s=>some ((⟨nm,pr,d.1,e,dos⟩:Rl),As L s 4 [125]))=rr;intro h6;cases rr with
  | none=>trivial
  | some d2=>
   intro bx Ad hc e g0 g2 g3;have hl:=rC Lc p8 (o:=o) hR hT bx Ad hc (.cells 52 mw) pQ nm pr .nils (fun n=>by simp [PV.under]) wT 11 [] s e hi (zh rfl) g0 g2 g3;rw [z] at hl;obtain ⟨e1,hl,k0,k2,k3⟩:=hl;obtain ⟨e2,R1,h8,r2⟩:=h6 bx Ad hc e1 k0 k2 k3;refine ⟨e2,R1,?_,r2⟩;rw [hL,CY];unfold Hg at *;rw [K8,HV];simp only [za,BF] at hl;rw [hl];exact h8
def yS (id:Nat) (L:List Tk) (o:Nat) (ns:List (List UInt8)) (s:RS) (r:Option (Rl×RS)):Prop:=match r with
 | none=>True
 | some d=>CN 23 [] id L o (TZ ns) (TZ (ns++[(Ch L ns (As L s 1 [114,117,108,101])).1])) s (CW d.1) d.2
theorem oN {id:Nat} {L:List Tk} {o:Nat} (hT:TokOK L) {n:Nat} (Pb:12 * L.length+10<=n) (RR:o+n<=1000000) (ns:List (List UInt8)) (hW:ns.length<=1000) {s:RS} (hi:inv L s):yS id L o ns s (KD L n o ns s):=by
 unfold KD sL aQ;have i1:=Bc hT hi (k:=1) [114,117,108,101] (by decide);have i2:=WH hT ns i1;have hf:=lS (id:=id) (o:=o) hT ns hW i1;have hR:=JD ns;have fI:=JD (ns++[(Ch L ns (As L s 1 [114,117,108,101])).1]);obtain ⟨T5,yi⟩:∃ T5,T5=Aa yW [1,1,1,1,1]:=⟨_,rfl⟩;have CY:yW.body.getD .skip=.seq (Aa yW [0]) (.seq (Aa yW [1,0]) (.seq (Aa yW [1,1,0]) (.seq (Aa yW [1,1,1,0]) (.seq (Aa yW [1,1,1,1,0]) T5)))):=by rw [yi];rfl
 cases n0:Bf L (Ch L ns (As L s 1 [114,117,108,101])).2 1 [112,114,105,111,114,105,116,121] with
 | false=>
  have i3:=i2;have hp:IN L (Ch L ns (As L s 1 [114,117,108,101])).2=(0,(Ch L ns (As L s 1 [114,117,108,101])).2):=by unfold IN;rw [n0];rfl
  rw [hp];unfold Na;have i4:=Bc hT i3 (k:=4) [123] (by decide);have h5:=yF T5 yi (id:=id) (o:=o) fI hT Pb RR (Ch L ns (As L s 1 [114,117,108,101])).1 ((0:Nat):Int) i4;revert h5;generalize ob (DO L [111,110] (Cn L) 11 [] _) _=rr;intro h5;cases rr with
  | none=>trivial
  | some d=>
   refine lQ fI (fun n=>BL n _ (Ej _)) fun bx Ad hc=>?_;have h5:=h5 bx Ad hc;have u0:=Aj Ad hc hR (BN (o:=o) hR hT hi 1 1 rfl [114,117,108,101]);have u1:=lR Ad hc hR hf;have t0:=Aj Ad hc fI (Ay (o:=o) fI hT i2 1 1 rfl [112,114,105,111,114,105,116,121]);unfold Cx at t0;rw [n0] at t0;simp only [if_true,zk,if_false] at t0;have u2:=Aj Ad hc fI (BN (o:=o) fI hT i3 4 4 rfl [123]);have hl:=E7 1 1;rw [show Da 1 1=.mk 1 0 0 [] (1,1,[]) (0,[],[]) [] from rfl] at hl;simp only [CM,Bi] at hl;have Ui:∀ k,id < bx.length+k:=fun k=>by omega
   rw [show wT=.mk 1 0 0 [] (1,1,[]) (0,[],[]) [] from rfl] at h5;simp only [Ct,Bi] at h5;generalize As L (Ch L ns (As L s 1 [114,117,108,101])).2 4 [123]=r4 at *;clear hp hf hT hi i1 i2 i3 i4 n0 Pb RR;generalize TZ (ns++[(Ch L ns (As L s 1 [114,117,108,101])).1])=Nm2 at *;generalize Ch L ns (As L s 1 [114,117,108,101])=r2 at *;generalize As L s 1 [114,117,108,101]=r1 at *;generalize TZ ns=Nm at *;have hb:=wQ r2.1 1 0 0 1 1 0 [] [] [] [] [];rw [Gg rfl];rw [CY];unfold Be mw at h5;unfold Be;rw [<- B5] at h5 |-;rw [<- Cu] at u0 u1 t0 u2 hl;simp only [opsOf,Aa,Ac,yW,y1] at |-;simp only [S9,AT,seval,PY,Bv,PZ,Aw,Al,u0,u1,t0,u2,hl,hb,Ui,SX,yX,yY,Ad];generalize hE:Rw T5 _=z
   have hP:∃ e' R1,z=some (.ret,⟨e',BX bx id (.cells 69 [.sl (A2 L),.int .i64 (d.2.i:Int),.int .i64 d.2.c,.int .i64 (d.2.t:Int),.int .i64 (o:Int),Nm2]) [.cells 52 (Ct d.1.nm d.1.pr (.sl (d.1.on.map BJ)) (.sl (d.1.dos.map B1)) d.1.ife),R1]⟩)/\getT e' 2=.bp bx.length 0:=by
    rw [<- hE];refine h5 _ ?_ ?_ ?_
    all_goals simp only [S7,AT,seval]
   obtain ⟨e',R1,he,g2⟩:=hP;subst he;clear hE h5;obtain ⟨⟨nm,pr,on,⟨k,n1,m1,sn,v,q,kids⟩,dos⟩,r5⟩:=d;simp only [CW,Ct];simp only [S9,AT,seval,PY,Bv,PZ,Aw,Al,g2,Ui,SX,Ad];exact ⟨_,rfl⟩
 | true=>
  have ia:=Bj hT i2 (by decide) n0;have i3:=Hz hT ia (lo:=0) (hi:=100) (two:=false);have hp:IN L (Ch L ns (As L s 1 [114,117,108,101])).2=DL L (BZ (Ch L ns (As L s 1 [114,117,108,101])).2) 0 100 false:=by unfold IN;rw [n0];rfl
  rw [hp];unfold Na;have i4:=Bc hT i3 (k:=4) [123] (by decide);have h5:=yF T5 yi (id:=id) (o:=o) fI hT Pb RR (Ch L ns (As L s 1 [114,117,108,101])).1 (((DL L (BZ (Ch L ns (As L s 1 [114,117,108,101])).2) 0 100 false).1:Nat):Int) i4;revert h5;generalize ob (DO L [111,110] (Cn L) 11 [] _) _=rr;intro h5;cases rr with
  | none=>trivial
  | some d=>
   refine lQ fI (fun n=>BL n _ (Ej _)) fun bx Ad hc=>?_;have h5:=h5 bx Ad hc;have u0:=Aj Ad hc hR (BN (o:=o) hR hT hi 1 1 rfl [114,117,108,101]);have u1:=lR Ad hc hR hf;have t0:=Aj Ad hc fI (Ay (o:=o) fI hT i2 1 1 rfl [112,114,105,111,114,105,116,121]);unfold Cx at t0;rw [n0] at t0;simp only [if_true,zk,if_false] at t0;have t1:=Aj Ad hc fI (HK (o:=o) fI hT ia 0 100 0 100 rfl rfl false);have u2:=Aj Ad hc fI (BN (o:=o) fI hT i3 4 4 rfl [123]);have hl:=E7 1 1;rw [show Da 1 1=.mk 1 0 0 [] (1,1,[]) (0,[],[]) [] from rfl] at hl;simp only [CM,Bi] at hl;have Ui:∀ k,id < bx.length+k:=fun k=>by omega
   rw [show wT=.mk 1 0 0 [] (1,1,[]) (0,[],[]) [] from rfl] at h5;simp only [Ct,Bi] at h5;generalize As L (DL L (BZ (Ch L ns (As L s 1 [114,117,108,101])).2) 0 100 false).2 4 [123]=r4 at *;generalize DL L (BZ (Ch L ns (As L s 1 [114,117,108,101])).2) 0 100 false=r3 at *;clear hp hf hT hi i1 i2 i3 i4 n0 Pb RR ia;generalize TZ (ns++[(Ch L ns (As L s 1 [114,117,108,101])).1])=Nm2 at *;generalize Ch L ns (As L s 1 [114,117,108,101])=r2 at *;generalize As L s 1 [114,117,108,101]=r1 at *;generalize TZ ns=Nm at *;have hb:=wQ r2.1 1 0 0 1 1 0 [] [] [] [] [];rw [Gg rfl];rw [CY];unfold Be mw at h5;unfold Be;rw [<- B5] at h5 |-;rw [<- Cu] at u0 u1 t0 u2 hl t1;simp only [opsOf,Aa,Ac,yW,y1] at |-;simp only [S9,AT,seval,PY,Bv,PZ,Aw,Al,u0,u1,t0,u2,hl,t1,hb,Ui,SX,yX,yY,Ad];generalize hE:Rw T5 _=z
   have hP:∃ e' R1,z=some (.ret,⟨e',BX bx id (.cells 69 [.sl (A2 L),.int .i64 (d.2.i:Int),.int .i64 d.2.c,.int .i64 (d.2.t:Int),.int .i64 (o:Int),Nm2]) [.cells 52 (Ct d.1.nm d.1.pr (.sl (d.1.on.map BJ)) (.sl (d.1.dos.map B1)) d.1.ife),R1]⟩)/\getT e' 2=.bp bx.length 0:=by
    rw [<- hE];refine h5 _ ?_ ?_ ?_
    all_goals simp only [S7,AT,seval]
   obtain ⟨e',R1,he,g2⟩:=hP;subst he;clear hE h5;obtain ⟨⟨nm,pr,on,⟨k,n1,m1,sn,v,q,kids⟩,dos⟩,r5⟩:=d;simp only [CW,Ct];simp only [S9,AT,seval,PY,Bv,PZ,Aw,Al,g2,Ui,SX,Ad];exact ⟨_,rfl⟩
theorem rE:GY CC y7 (y7.body.getD .skip)=true:=by kernel_rfl
theorem rF:Bk CC y7 (y7.body.getD .skip)=false:=by kernel_rfl
theorem rG:CC.P.funcs[7]?=some y7:=by kernel_rfl
theorem WI {x:List PV} {b:List PBox} (h:x.length.ble y7.ntmps=true):Ae CC 7 x b=CB CC y7.results.toList (Hg CC (y7.body.getD .skip) ⟨x,b⟩):=Ce (fn:=y7) (c:=y7.body.getD .skip) rfl rfl rG rfl rF rE (zh h)
theorem uY:Cl CC (opsOf (Aa y7 [1,1,1,1,1,1,0,1,0,0]))=false:=by kernel_rfl
theorem aS:Cl CC (opsOf (Aa y7 [1,1,1,1,1,0,0,0,0,0]))=true:=by kernel_rfl
theorem oO:lH (opsOf (Aa y7 [1,1,1,1,1,1,0,1,0,0]))=true:=by kernel_rfl
theorem fq:(opsOf (Aa y7 [1,1,1,1,1,1,0,1,0,0])).size=11:=by kernel_rfl
def HB (s:RS):List (Nat×Nat×PV):=[(0,61,.bp 0 0),(1,62,.bp 0 0),(2,63,.bp 0 3),(3,64,.int .i64 (s.t:Int)),(4,65,.bp 0 0),(5,66,.bp 0 0),(6,67,.bp 0 2),(7,68,.int .i64 s.c),(8,2,.osl 52 []),(9,3,.int .i64 (s.t:Int)),(10,4,.int .i64 s.c)]
theorem Yk (s:RS):(HB s).Pairwise (fun x y=>x.1≠y.1/\x.2.1≠y.2.1):=by unfold HB;simp
theorem oP {L:List Tk} {s:RS} {Nm:PV} (e:List PV) (h8:getT e 8=.bp 0 0) :
 ∃ e',drawAll CC (Ae CC) (opsOf (Aa y7 [1,1,1,1,1,1,0,1,0,0])) ⟨e,[Be L s 0 Nm]⟩=some (.normal,⟨e',[Be L s 0 Nm]⟩)/\getT e' 2=.osl 52 []/\getT e' 3=.int .i64 (s.t:Int)/\getT e' 4=.int .i64 s.c:=by
 refine ⟨_,E0 (e0:=e) (L:=HB s) (bxOf:=fun _=>[Be L s 0 Nm]) (TU _) (WC oO) (fun D j op A1 hD Dd QE=>?_) (by unfold HB;simp [AD]) (r:=⟨AD e (fun _=>true) (HB s),[Be L s 0 Nm]⟩) (fun D hD=>?_),?_,?_,?_⟩
 · have hj:j < 11:=by
    have:=(Array.getElem?_eq_some_iff.1 A1).1;rw [fq] at this;exact this
   have De:=Yk s;have z8:getT (AD e D (HB s)) 8=.bp 0 0:=by rw [ED e D 8 _ (by unfold HB;simp)];exact h8
   by_cases e0:j=0
   · subst e0
     simp only [opsOf,Aa,Ac,y7,y1,y3,y0,yZ] at A1;injection A1 with A1
     subst A1;refine ⟨rfl,fun al=>?_⟩;rw [<- AL e D 0 61 (.bp 0 0) hD _ (by unfold HB;simp) De];generalize AD e D (HB s)=E at *;unfold Be at *;rw [<- Gh];simp only [S9,Gi,seval,PY,Bv,ZC,Al,z8];exact ⟨_,rfl⟩
   by_cases e1:j=1
   · subst e1
     simp only [opsOf,Aa,Ac,y7,y1,y3,y0,yZ] at A1;injection A1 with A1
     subst A1;refine ⟨rfl,fun al=>?_⟩;have d0:D 0=true:=Dd ⟨0,.data⟩ (by simp) rfl;have z61:getT (AD e D (HB s)) 61=.bp 0 0:=Ba e D 0 61 _ d0 _ (by unfold HB;simp) De;rw [<- AL e D 1 62 (.bp 0 0) hD _ (by unfold HB;simp) De];generalize AD e D (HB s)=E at *;unfold Be at *;rw [<- Gh];simp only [S9,Gi,seval,PY,Bv,ZC,Al,z8,z61];exact ⟨_,rfl⟩
   by_cases e2:j=2
   · subst e2
     simp only [opsOf,Aa,Ac,y7,y1,y3,y0,yZ] at A1;injection A1 with A1
     subst A1;refine ⟨rfl,fun al=>?_⟩;have d1:D 1=true:=Dd ⟨1,.data⟩ (by simp) rfl;have z62:getT (AD e D (HB s)) 62=.bp 0 0:=Ba e D 1 62 _ d1 _ (by unfold HB;simp) De;rw [<- AL e D 2 63 (.bp 0 3) hD _ (by unfold HB;simp) De];generalize AD e D (HB s)=E at *;unfold Be at *;rw [<- Gh];simp only [S9,Gi,seval,PY,Bv,ZC,Al,z8,z62];exact ⟨_,rfl⟩
   by_cases e3:j=3
   · subst e3
     simp only [opsOf,Aa,Ac,y7,y1,y3,y0,yZ] at A1;injection A1 with A1
     subst A1;refine ⟨rfl,fun al=>?_⟩;have d2:D 2=true:=Dd ⟨2,.data⟩ (by simp) rfl;have z63:getT (AD e D (HB s)) 63=.bp 0 3:=Ba e D 2 63 _ d2 _ (by unfold HB;simp) De;rw [<- AL e D 3 64 (.int .i64 (s.t:Int)) hD _ (by unfold HB;simp) De];generalize AD e D (HB s)=E at *;unfold Be at *;rw [<- Gh];simp only [S9,Gi,seval,PY,Bv,ZC,Al,z8,z63];exact ⟨_,rfl⟩
   by_cases e4:j=4
   · subst e4
     simp only [opsOf,Aa,Ac,y7,y1,y3,y0,yZ] at A1;injection A1 with A1
     subst A1;refine ⟨rfl,fun al=>?_⟩;rw [<- AL e D 4 65 (.bp 0 0) hD _ (by unfold HB;simp) De];generalize AD e D (HB s)=E at *;unfold Be at *;rw [<- Gh];simp only [S9,Gi,seval,PY,Bv,ZC,Al,z8];exact ⟨_,rfl⟩
   by_cases e5:j=5
   · subst e5
     simp only [opsOf,Aa,Ac,y7,y1,y3,y0,yZ] at A1;injection A1 with A1
     subst A1;refine ⟨rfl,fun al=>?_⟩;have d4:D 4=true:=Dd ⟨4,.data⟩ (by simp) rfl;have z65:getT (AD e D (HB s)) 65=.bp 0 0:=Ba e D 4 65 _ d4 _ (by unfold HB;simp) De;rw [<- AL e D 5 66 (.bp 0 0) hD _ (by unfold HB;simp) De];generalize AD e D (HB s)=E at *;unfold Be at *;rw [<- Gh];simp only [S9,Gi,seval,PY,Bv,ZC,Al,z8,z65];exact ⟨_,rfl⟩
   by_cases e6:j=6
   · subst e6
     simp only [opsOf,Aa,Ac,y7,y1,y3,y0,yZ] at A1;injection A1 with A1
     subst A1;refine ⟨rfl,fun al=>?_⟩;have d5:D 5=true:=Dd ⟨5,.data⟩ (by simp) rfl;have z66:getT (AD e D (HB s)) 66=.bp 0 0:=Ba e D 5 66 _ d5 _ (by unfold HB;simp) De;rw [<- AL e D 6 67 (.bp 0 2) hD _ (by unfold HB;simp) De];generalize AD e D (HB s)=E at *;unfold Be at *;rw [<- Gh];simp only [S9,Gi,seval,PY,Bv,ZC,Al,z8,z66];exact ⟨_,rfl⟩
   by_cases e7:j=7
   · subst e7
     simp only [opsOf,Aa,Ac,y7,y1,y3,y0,yZ] at A1;injection A1 with A1
     subst A1;refine ⟨rfl,fun al=>?_⟩;have d6:D 6=true:=Dd ⟨6,.data⟩ (by simp) rfl;have z67:getT (AD e D (HB s)) 67=.bp 0 2:=Ba e D 6 67 _ d6 _ (by unfold HB;simp) De;rw [<- AL e D 7 68 (.int .i64 s.c) hD _ (by unfold HB;simp) De];generalize AD e D (HB s)=E at *;unfold Be at *;rw [<- Gh];simp only [S9,Gi,seval,PY,Bv,ZC,Al,z8,z67];exact ⟨_,rfl⟩
   by_cases e8:j=8
   · subst e8
     simp only [opsOf,Aa,Ac,y7,y1,y3,y0,yZ] at A1;injection A1 with A1
     subst A1;refine ⟨rfl,fun al=>?_⟩;rw [<- AL e D 8 2 (.osl 52 []) hD _ (by unfold HB;simp) De];generalize AD e D (HB s)=E at *;unfold Be at *;rw [<- Gh];simp only [S9,Gi,seval,PY,Bv,ZC,Al,z8];exact ⟨_,rfl⟩
   by_cases e9:j=9
   · subst e9
     simp only [opsOf,Aa,Ac,y7,y1,y3,y0,yZ] at A1;injection A1 with A1
     subst A1;refine ⟨rfl,fun al=>?_⟩;have d3:D 3=true:=Dd ⟨3,.data⟩ (by simp) rfl;have z64:getT (AD e D (HB s)) 64=.int .i64 (s.t:Int):=Ba e D 3 64 _ d3 _ (by unfold HB;simp) De;rw [<- AL e D 9 3 (.int .i64 (s.t:Int)) hD _ (by unfold HB;simp) De];generalize AD e D (HB s)=E at *;unfold Be at *;rw [<- Gh];simp only [S9,Gi,seval,PY,Bv,ZC,Al,z8,z64];exact ⟨_,rfl⟩
   by_cases e10:j=10
   · subst e10
     simp only [opsOf,Aa,Ac,y7,y1,y3,y0,yZ] at A1;injection A1 with A1
     subst A1;refine ⟨rfl,fun al=>?_⟩;have d7:D 7=true:=Dd ⟨7,.data⟩ (by simp) rfl;have z68:getT (AD e D (HB s)) 68=.int .i64 s.c:=Ba e D 7 68 _ d7 _ (by unfold HB;simp) De;rw [<- AL e D 10 4 (.int .i64 s.c) hD _ (by unfold HB;simp) De];generalize AD e D (HB s)=E at *;unfold Be at *;rw [<- Gh];simp only [S9,Gi,seval,PY,Bv,ZC,Al,z8,z68];exact ⟨_,rfl⟩
   omega
 · have JE:=fq
   have hd:∀ j,j < 11->D j=true:=fun j hj=>hD j (by rw [JE];exact hj);unfold HB;simp only [AD,hd 0 (by decide),hd 1 (by decide),hd 2 (by decide),hd 3 (by decide),hd 4 (by decide),hd 5 (by decide),hd 6 (by decide),hd 7 (by decide),hd 8 (by decide),hd 9 (by decide),hd 10 (by decide),if_true]
 · exact Ba e _ 8 2 _ rfl _ (by unfold HB;simp) (Yk s)
 · exact Ba e _ 9 3 _ rfl _ (by unfold HB;simp) (Yk s)
 · exact Ba e _ 10 4 _ rfl _ (by unfold HB;simp) (Yk s)
theorem uZ {L:List Tk} {s:RS} {Nm:PV} (hR:Nm.pure=true):C5 [Be L s 0 Nm]:=by
 unfold C5;rw [y6,Cb L s 0 hR];rfl
theorem ft {L:List Tk} {Nm:PV} (hR:Nm.pure=true) {f:FuncId} {xs:List PV} {v:PV} {s s2:RS} (h:CF f xs 0 L 0 0 Nm s v s2):Ak CC (Ae CC) f (.bp 0 0 :: xs) [Be L s 0 Nm]=some (.ret v,[Be L s2 0 Nm]):=h _ ⟨uZ hR,rfl⟩
theorem oQ {L:List Tk} {Nm Nm2:PV} (hR:Nm.pure=true) {f:FuncId} {xs:List PV} {v:PV} {s s2:RS} (h:CN f xs 0 L 0 Nm Nm2 s v s2):Ak CC (Ae CC) f (.bp 0 0 :: xs) [Be L s 0 Nm]=some (.ret v,[Be L s2 0 Nm2]):=h _ ⟨uZ hR,rfl⟩
def rH (L:List Tk) (r:Option (List Rl×RS)) (z:Option (Ex×St)):Prop:=match r with
 | none=>True
 | some d=>∃ e' ns,z=some (.exit 0,⟨e',[Be L d.2 0 (TZ ns)]⟩)/\getT e' 8=.bp 0 0/\getT e' 9=.osl 52 (d.1.map CW)
theorem lU {L:List Tk} (hT:TokOK L) {n o:Nat} {ns:List (List UInt8)} {s:RS} (hi:inv L s) {d:Rl×RS} (h:KD L n o ns s=some d):inv L d.2:=by
 unfold KD sL aQ Na at h;have i1:=Bc hT hi (k:=1) [114,117,108,101] (by decide);have i2:=WH hT ns i1
 have i3:inv L (IN L (Ch L ns (As L s 1 [114,117,108,101])).2).2:=by
  unfold IN;split
  · rename_i hn
    exact Hz hT (Bj hT i2 (by decide) hn)
  · exact i2
 have i4:=Bc hT i3 (k:=4) [123] (by decide);revert h;generalize As L (IN L (Ch L ns (As L s 1 [114,117,108,101])).2).2 4 [123]=s4 at *;intro h;cases z1:DO L [111,110] (Cn L) 11 [] s4 with
 | none=>rw [z1] at h;cases h
 | some d1=>
  rw [z1,Kl] at h;have i5:=LX hT (fun s a s2 hi h=>G' hT hi h) _ _ _ _ i4 z1;cases z2:(if Bf L d1.2 1 [105,102] then ob (CS L n o (BZ d1.2)) (fun e s=>some (e,As L s 4 [59])) else some (wT,d1.2)) with
  | none=>rw [z2] at h;cases h
  | some d2=>
   rw [z2,Kl] at h
   have i6:inv L d2.2:=by
    split at z2
    · rename_i hn
      cases z3:CS L n o (BZ d1.2) with
      | none=>rw [z3] at z2;cases z2
      | some w=>
       rw [z3,Kl] at z2;injection z2 with z2
       rw [<- z2];exact Bc hT (HL hT (Bj hT i5 (by decide) hn) z3) _ (by decide)
    · injection z2 with z2
      rw [<- z2];exact i5
   cases z4:DO L [100,111] (D6 L n o) 11 [] d2.2 with
   | none=>rw [z4] at h;cases h
   | some d3=>
    rw [z4,Kl] at h;injection h with h
    rw [<- h];exact Bc hT (LX hT (fun s a s2 hi h=>LS hT hi h) _ _ _ _ i6 z4) _ (by decide)
theorem u6 (Lc:Code) (hL:Lc=Aa y7 [1,1,1,1,1,0,0]) {L:List Tk} (hT:TokOK L) {n:Nat} (Pb:12 * L.length+10<=n) (RR:n<=1000000):∀ (m:Nat) (rs:List Rl) (ns:List (List UInt8)) (s:RS) (e:List PV),inv L s->rs.length+m<=60->ns.length=rs.length->getT e 8=.bp 0 0->getT e 9=.osl 52 (rs.map CW) ->
 rH L (Km L n 0 m rs ns s) (Hg CC Lc ⟨e,[Be L s 0 (TZ ns)]⟩):=by
 intro m
 induction m with
 | zero=>intro rs ns s e _ _ _ _ _;trivial
 | succ m ih=>
  intro rs ns s e hi h60 we g8 g9;rw [Km,Eu (Aa y7 [1,1,1,1,1,0,0,0]) hL];have hR:=JD ns;by_cases c0:s.c=0
  case neg=>
   have Dq:(s.c == 0)=false:=beq_eq_false_iff_ne.2 c0;rw [if_neg (fun h=>c0 h.1)];unfold Be;have HN:=fun st=>Ep (call:=Ae CC) (st:=st) aS;rw [<- B5];rw [<- Fm,<- Ih] at HN;simp only [opsOf,Aa,Ac,y7,y1] at HN |-;simp only [S9,AT,seval,PY,Bv,ZC,Al,HN,g8,g9,Dq];exact ⟨_,ns,rfl,by simp only [S7,AT,seval,g8],by simp only [S7,AT,seval,g9]⟩
  have Dq:(s.c == 0)=true:=beq_iff_eq.2 c0;have hg:=Fg (hi c0);unfold ID at hg;have DF:¬ ((s.i:Int) < 0):=by omega
  have Ft:=JX (tokAt L s.i).1 0;by_cases hk:(tokAt L s.i).1=0
  · rw [if_neg (fun h=>h.2 hk)]
    rw [beq_iff_eq.2 hk] at Ft;have Ft:(((tokAt L s.i).1:Int) != 0)=false:=Ft;unfold Be;have HN:=fun st=>Ep (call:=Ae CC) (st:=st) aS;rw [<- B5];rw [<- Fm,<- Ih] at HN;simp only [opsOf,Aa,Ac,y7,y1] at HN |-;simp only [S9,AT,seval,PY,Bv,ZC,Al,HN,g8,g9,Dq,hg,DF,Ft];exact ⟨_,ns,rfl,by simp only [S7,AT,seval,g8],by simp only [S7,AT,seval,g9]⟩
  rw [if_pos ⟨c0,hk⟩];rw [beq_eq_false_iff_ne.2 hk] at Ft;have Ft:(((tokAt L s.i).1:Int) != 0)=true:=Ft
  have sC:inv L (Yh L rs.length s):=by
   unfold Yh;split
   · exact CX hi (by decide)
   · exact hi
  have mr:=oN (id:=0) (o:=0) hT Pb (by omega) ns (by omega) sC;cases z:KD L n 0 ns (Yh L rs.length s) with
  | none=>trivial
  | some d=>
   rw [z] at mr;rw [Kl];have iv:=lU hT sC z;have key:=fun e=>ih (rs++[d.1]) (ns++[(Ch L ns (As L (Yh L rs.length s) 1 [114,117,108,101])).1]) d.2 e iv (by simp only [ze,y2,y8] at h60 |-;omega) (by simp only [ze,y2,y8,we]);have t2:=oQ hR mr;have t0:=ft hR (Dy (id:=0) (o:=0) hR hi 1 1 rfl [114,117,108,101]);have t1:=ft hR (D8 (id:=0) (o:=0) hR hi 3);clear mr ih iv z sC;generalize ns++[(Ch L ns (As L (Yh L rs.length s) 1 [114,117,108,101])).1]=ns2 at *;generalize Km L n 0 m (rs++[d.1]) ns2 d.2=zz at *;rw [y',y5,za] at key;have hb:=wN _ cP;have FB:=wO d.1.nm d.1.pr (d.1.on.map BJ) (d.1.dos.map B1) d.1.ife;have p3:CW d.1=.agg (Ct d.1.nm d.1.pr (.sl (d.1.on.map BJ)) (.sl (d.1.dos.map B1)) d.1.ife):=rfl;have Jd:=fun st al l dd=>D7 (bytes:=208) (size:=15) (e:=52) (st:=st) (al:=al) (l:=l) (d:=dd) (xs:=rs.map CW) (ys:=[CW d.1]) (by simp only [y2,y8,zd];omega) (by decide) (by rw [p3];obtain ⟨⟨nm,pr,on,⟨k,n1,m1,sn,v,q,kids⟩,dos⟩,r⟩:=d;rfl);rw [p3] at t2 key Jd;have hlen:((rs.map CW).length:Int)=(rs.length:Int):=by rw [zd]
   generalize rs.map CW=xs at *;generalize TZ ns=Nm at *;generalize TZ ns2=Nm2 at *;unfold Yh at t2;have finish:True:=trivial;by_cases Pd:rs.length=40
   · have pg:((xs.length:Int) == 40)=true:=by rw [hlen,Pd];rfl
     cases hn:Bf L s 1 [114,117,108,101] with
     | true=>
      rw [hn] at t0;rw [if_pos ⟨Pd,hn⟩] at t2;generalize B9 L s 3=r1 at *;obtain ⟨⟨nm,pr,on,⟨k,n1,m1,sn,v,q,kids⟩,dos⟩,r⟩:=d;simp only [Ct] at t2 key Jd FB;unfold Be at t0 t1 t2 key |-;simp only [show ((0:Nat):Int)=0 from rfl] at t0 t1 t2 key |-;have HN:=fun st=>Ep (call:=Ae CC) (st:=st) aS;rw [<- B5] at key |-;rw [<- Cu] at t0 t1 t2;rw [<- Fm,<- Ih] at HN;simp only [opsOf,Aa,Ac,y7,y1] at HN |-;simp only [S9,AT,seval,PY,Bv,ZC,Al,HN,g8,g9,Dq,hg,DF,Ft,pg,t0,t1,t2,hb,FB,Jd,zn,SX,yX,yY];refine key _ ?_ ?_
      all_goals simp only [S7,AT,seval,g8]
     | false=>
      rw [hn] at t0;rw [if_neg (fun h=>by rw [hn] at h;cases h.2)] at t2;obtain ⟨⟨nm,pr,on,⟨k,n1,m1,sn,v,q,kids⟩,dos⟩,r⟩:=d;simp only [Ct] at t2 key Jd FB;unfold Be at t0 t1 t2 key |-;simp only [show ((0:Nat):Int)=0 from rfl] at t0 t1 t2 key |-;have HN:=fun st=>Ep (call:=Ae CC) (st:=st) aS;rw [<- B5] at key |-;rw [<- Cu] at t0 t1 t2;rw [<- Fm,<- Ih] at HN;simp only [opsOf,Aa,Ac,y7,y1] at HN |-;simp only [S9,AT,seval,PY,Bv,ZC,Al,HN,g8,g9,Dq,hg,DF,Ft,pg,t0,t2,hb,FB,Jd,zn,SX,yX,yY];refine key _ ?_ ?_
      all_goals simp only [S7,AT,seval,g8]
   · have pg:((xs.length:Int) == 40)=false:=beq_eq_false_iff_ne.2 (by rw [hlen];omega)
     rw [if_neg (fun h=>Pd h.1)] at t2;obtain ⟨⟨nm,pr,on,⟨k,n1,m1,sn,v,q,kids⟩,dos⟩,r⟩:=d;simp only [Ct] at t2 key Jd FB;unfold Be at t0 t1 t2 key |-;simp only [show ((0:Nat):Int)=0 from rfl] at t0 t1 t2 key |-;have HN:=fun st=>Ep (call:=Ae CC) (st:=st) aS;rw [<- B5] at key |-;rw [<- Cu] at t0 t1 t2;rw [<- Fm,<- Ih] at HN;simp only [opsOf,Aa,Ac,y7,y1] at HN |-;simp only [S9,AT,seval,PY,Bv,ZC,Al,HN,g8,g9,Dq,hg,DF,Ft,pg,t2,hb,FB,Jd,zn,SX,yX,yY];refine key _ ?_ ?_
     all_goals simp only [S7,AT,seval,g8]
end Go.HH
