/-
  What the law needs, packed: RC RD RE RF RG.
-/
import Derived.Test.YthjabmlbmnadjaaGreatJ39
open List renaming length_cons->yW,length_nil->yY,getElem?_cons_zero->yZ,getElem?_cons_succ->y0,getElem?_toArray->y2,filterMap_cons->y3,filterMap_nil->y4,getD_cons_zero->y5,getD_cons_succ->y6,not_mem_nil->y7,mem_cons->za,map_cons->zd,map_nil->ze,cons_append->zh,nil_append->zi,map_append->zj,length_map->zk,take_of_length_le->zm,length_append->zn,length_set->zq
open Option renaming getD->yX
open Go.Proofs.Tryz renaming f38->y1,f41->y8,f39->y9,f19->y',prog->zo
open Bool renaming and_self->zf
open Nat renaming le_of_ble_eq_true->zg,add_sub_cancel_left->zl
namespace Go.HH
open Go Go.Proofs
set_option maxRecDepth 100000
set_option maxHeartbeats 4000000
set_option linter.unusedSimpArgs false
set_option linter.unusedVariables false
theorem Jt:GY CC y9 (y9.body.getD .skip)=true:=by kernel_rfl
theorem Ju:Bk CC y9 (y9.body.getD .skip)=false:=by kernel_rfl
theorem I8:CC.P.funcs[39]?=some y9:=by kernel_rfl
theorem CK {x:List PV} {b:List PBox} (h:x.length.ble y9.ntmps=true):Ae CC 39 x b=CB CC y9.results.toList (Hg CC (y9.body.getD .skip) ⟨x,b⟩):=Ce (fn:=y9) (c:=y9.body.getD .skip) rfl rfl I8 rfl Ju Jt (zg h)
theorem Jv:GY CC y8 (y8.body.getD .skip)=true:=by kernel_rfl
theorem Jw:Bk CC y8 (y8.body.getD .skip)=false:=by kernel_rfl
theorem I9:CC.P.funcs[41]?=some y8:=by kernel_rfl
theorem CL {x:List PV} {b:List PBox} (h:x.length.ble y8.ntmps=true):Ae CC 41 x b=CB CC y8.results.toList (Hg CC (y8.body.getD .skip) ⟨x,b⟩):=Ce (fn:=y8) (c:=y8.body.getD .skip) rfl rfl I9 rfl Jw Jv (zg h)
theorem Mc {bx:List PBox} {id:Nat} {P:PBox} {ys:List PBox} (k:Nat):(BX bx id P ys).take (bx.length+k)=BX bx id P (ys.take k):=by
 unfold BX;rw [List.take_append,zm (by simp),zq,zl]
theorem XT {bx:List PBox} {id:Nat} {P:PBox} {ys:List PBox} (k:Nat):(BX bx id P ys).drop (bx.length+k)=ys.drop k:=by
 unfold BX;rw [List.drop_append,List.drop_of_length_le (by simp),zq,zl,zi]
theorem cO {bx:List PBox} {id:Nat} {P:PBox} {ys zs:List PBox}:BX bx id P ys++zs=BX bx id P (ys++zs):=by
 unfold BX;rw [List.append_assoc]
theorem eM {co:FuncId->List PV->List PBox->Option (CR×List PBox)} {k:FuncId} {vs:List PV} {bx:List PBox} {id:Nat} {P P':PBox} {v:PV} (tys:Array TypeId) (a b:PBox) (zs:List PBox) (t x:Nat) (d:Option Tmp) (e:List PV) (ht:tys.toList.any (Bh CC)=true) (hk:Aq vs=false) (hu:Au (bx.length+2) vs=true) (hc:C5 bx) (hP:P.under bx.length=true) (iS:P'.under bx.length=true) (p5:([a,b].all fun y=>y.under (bx.length+2))=true) (hv:v.under (bx.length+2)=true) (h:co k vs (BX bx id P [a,b])=some (.ret v,BX bx id P' [a,b])) :
 H2 CC co tys k vs d [(t,.box (bx.length+2) x)] ⟨e,BX bx id P (a :: b :: zs)⟩=some (.next ((St.mk e (BX bx id P' (a :: b :: zs))).put d v) (Ap [(t,.box (bx.length+2) x)] d)):=by
 rw [Pl CC co tys k vs d _ _ (bx.length+2) ht rfl (by rw [hk];simp) hu (by rw [Mc];have:=IZ (id:=id) (P:=P) (ys:=[a,b]) hc hP p5;unfold C5 at this;rw [E2] at this;exact this),Mc];rw [show (a :: b :: zs).take 2=[a,b] from rfl,h];rw [Sh v _ _ _ _ _ _ (by rw [E2] <;> rfl) hv (by have:=IZ (id:=id) (P:=P') (ys:=[a,b]) hc iS p5;unfold C5 at this;rw [E2] at this;exact this)];rw [XT,cO];rfl
theorem eN {co:FuncId->List PV->List PBox->Option (CR×List PBox)} {k:FuncId} {vs:List PV} {bx:List PBox} {id:Nat} {P P':PBox} {v:PV} (tys:Array TypeId) (a b:PBox) (zs:List PBox) (t x:Nat) (d:Option Tmp) (e:List PV) (ht:tys.toList.any (Bh CC)=true) (hk:Aq vs=false) (hu:Au (bx.length+2) vs=true) (hc:C5 bx) (hP:P.under bx.length=true) (iS:P'.under bx.length=true) (p5:([a,b].all fun y=>y.under (bx.length+2))=true) (hv:v.under (bx.length+2)=true) (h:co k vs (BX bx id P [a,b])=some (.pan v,BX bx id P' [a,b])) :
 H2 CC co tys k vs d [(t,.box (bx.length+2) x)] ⟨e,BX bx id P (a :: b :: zs)⟩=some (.pan v ⟨e,BX bx id P' (a :: b :: zs)⟩):=by
 rw [Pl CC co tys k vs d _ _ (bx.length+2) ht rfl (by rw [hk];simp) hu (by rw [Mc];have:=IZ (id:=id) (P:=P) (ys:=[a,b]) hc hP p5;unfold C5 at this;rw [E2] at this;exact this),Mc];rw [show (a :: b :: zs).take 2=[a,b] from rfl,h];rw [cf v _ _ _ _ _ _ (by rw [E2] <;> rfl) hv (by have:=IZ (id:=id) (P:=P') (ys:=[a,b]) hc iS p5;unfold C5 at this;rw [E2] at this;exact this)];rw [XT,cO];rfl
def Dh (t:TypeId):List PV->PV
 | []=>.nils
 | x :: r=>.osl t (x :: r)
noncomputable def IT:TypeInfo:=(zo.info? 46).getD default
noncomputable def IS:TypeInfo:=(zo.info? 49).getD default
theorem sJ (bytes:Nat) (hb:IT.bytes=bytes) (st:St) (al:List (Nat×Loc)) (s x:Operand) (d:Option Tmp):EW CC st al s x 47 47 d=match DV CC st al 46 s,Di (opd CC st.env x) with
 | some (l,xs),some ys=>Sf bytes 10 46 st al l xs ys d
 | _,_=>none:=EZ (i:=IT) (by kernel_rfl) (by kernel_rfl) (by kernel_rfl) (z:=(IT.zero).getD default) (by kernel_rfl) (by kernel_rfl) (by rw [show IT.size=10 from by kernel_rfl];decide) hb (by kernel_rfl)
theorem sK (bytes:Nat) (hb:IS.bytes=bytes) (st:St) (al:List (Nat×Loc)) (s x:Operand) (d:Option Tmp):EW CC st al s x 50 50 d=match DV CC st al 49 s,Di (opd CC st.env x) with
 | some (l,xs),some ys=>Sf bytes 16 49 st al l xs ys d
 | _,_=>none:=EZ (i:=IS) (by kernel_rfl) (by kernel_rfl) (by kernel_rfl) (z:=(IS.zero).getD default) (by kernel_rfl) (by kernel_rfl) (by rw [show IS.size=16 from by kernel_rfl];decide) hb (by kernel_rfl)
theorem PW:IT.bytes=120:=by kernel_rfl
theorem PX:IS.bytes=200:=by kernel_rfl
def Ct (nm:List UInt8) (pr:Int) (on:PV) (dos:PV):Tr->List PV
 | .mk k n m s v q kids=>[.str nm,.int .i64 pr,on,.int .i64 k,.int .i64 n,.int .i64 m,.str s,.int .i64 v.1,.int .i64 v.2.1,.str v.2.2,.int .i64 q.1,.str q.2.1,.str q.2.2,.sl (BS kids),dos]
theorem Ei (t:TypeId) (n:Nat):∀ l:List PV,Au n l=true->(Dh t l).under n=true
 | [],_=>by simp [Dh,PV.under]
 | x :: r,h=>by simp only [Dh,PV.under];exact h
theorem vU (t:Tg):AW CC 47 1 [(0,BJ t)]=some (.osl 46 [BJ t]):=by kernel_rfl
theorem C2 (n:Nat) (e:TypeId) (l:List PV):(PV.osl e l).under n=Au n l:=by simp [PV.under]
theorem vV (s:Sp):AW CC 50 1 [(0,.agg (M7 s))]=some (.osl 49 [.agg (M7 s)]):=by
 obtain ⟨k,y,nm,⟨k2,n,m,s,v,q,kids⟩⟩:=s;unfold M7 A7 DH
 kernel_rfl
theorem Jx (n:Nat) (s:Sp):Au n (M7 s)=true:=by unfold M7;simp [PV.under,Au,SX]
theorem IJ (s:Sp):(M7 s).length=16:=by unfold M7;simp [SX]
theorem Wt (l:List PV):∀ r:List PV,Aq (r++l)=(Aq r && Aq l)
 | []=>rfl
 | x :: r=>by rw [zh,BE,BE,Wt l r,Bool.and_assoc]
theorem LB (s:Sp):Aq (M7 s)=true:=by unfold M7;rw [Wt,Fx];rfl
theorem BC (n:Nat) (t:Tg):(BJ t).under n=true:=by unfold BJ;simp [PV.under,Au]
theorem BP (n:Nat) (s:Sp):(B1 s).under n=true:=by unfold B1;simp [PV.under,Jx]
theorem Bn {α:Type} (f:α->PV) (hf:∀ n a,(f a).under n=true) (n:Nat):∀ l:List α,Au n (l.map f)=true
 | []=>by simp [Au]
 | x :: r=>by rw [zd,SU.2.2.1,hf,Bn f hf n r];rfl
theorem P0 {bx:List PBox} {id:Nat} {P P':PBox} {ys ys':List PBox} {f:FuncId} {args:List PV} {r:CR} (hp:Aq args=false) (hl:ys'.length=ys.length) (hc:C5 bx) (hP:P'.under bx.length=true) (hy:(ys'.all fun y=>y.under (bx.length+ys'.length))=true) (hr:r.under (bx.length+ys.length)=true) (h:Ae CC f args (BX bx id P ys)=some (r,BX bx id P' ys')):Ak CC (Ae CC) f args (BX bx id P ys)=some (r,BX bx id P' ys'):=by
 unfold Ak;rw [if_pos (by rw [hp];simp),h];simp only;unfold Fl;rw [E2];have ht:(BX bx id P' ys').take (bx.length+ys.length)=BX bx id P' ys':=by rw [<- hl,<- E2 (id:=id) (P:=P') (ys:=ys')];exact zm (Nat.le_refl _)
 rw [ht,hr];have:=IZ (id:=id) (P:=P') (ys:=ys') hc hP hy;unfold C5 at this;rw [E2,hl] at this;rw [this];rfl
theorem eO:Cl CC (opsOf (Aa y9 []))=false:=by kernel_rfl
theorem LC:Cc (opsOf (Aa y9 []))=[[0,1,2,3,4,5,6,7],[0,2,1,3,4,5,6,7],[0,2,3,1,4,5,6,7],[0,2,3,4,1,5,6,7],[2,0,1,3,4,5,6,7],[2,0,3,1,4,5,6,7],[2,0,3,4,1,5,6,7],[2,3,0,1,4,5,6,7],[2,3,0,4,1,5,6,7],[2,3,4,0,1,5,6,7]]:=by kernel_rfl
theorem Tz {bx:List PBox} {id:Nat} {L:List Tk} {i o:Nat} {RL:PV} (hR:RL.pure=true) {j:Nat} (Ad:id < bx.length) (hc:C5 bx) (nm:List UInt8) (pr:Int) (dosV:PV) (EB:∀ n,dosV.under n=true) (et:Tr) (t0:Tk) {J:List PBox} (hJ:∀ n,(J.all fun x=>x.under n)=true)  (a:Tg) (h:Vq 40 [] id L RL i o (BJ a) j o) :
 drawAll CC (Ae CC) (opsOf (Aa y9 [])) ⟨[.bp (bx.length+2) 0,.bp bx.length 0],BX bx id (Av L i o RL) (.cells 56 [.bp id 0] :: .cells 59 [.int .i64 (t0.1:Int),.str t0.2.1,.int .i64 (t0.2.2:Int)] :: .cells 52 (Ct nm pr .nils dosV et) :: J)⟩=some (.normal,⟨(setT (setT (setT (setT (setT (setT (setT (setT [.bp (bx.length+2) 0,.bp bx.length 0] 2 (.bp (bx.length+2) 2)) 3 (.nils)) 4 (.bp id 0)) 5 (BJ a)) 6 (.osl 46 [BJ a])) 7 (.osl 46 [BJ a])) 8 (.bp (bx.length+2) 2)) 7 (.sl [BJ a])),BX bx id (Av L j o RL) (.cells 56 [.bp id 0] :: .cells 59 [.int .i64 (t0.1:Int),.str t0.2.1,.int .i64 (t0.2.2:Int)] :: .cells 52 (Ct nm pr (.osl 46 [BJ a]) dosV et) :: J)⟩):=by
 have t1:=Ab Ad hc hR h;have hd:∀ k,id < bx.length+k:=fun k=>by omega
 have hb:=sJ _ PW;obtain ⟨k,n,m,s,v,q,kids⟩:=et;have hk:∀ n,Au n (BS kids)=true:=fun z=>AE z _ (By kids);have bn:([56]:List TypeId).toArray.toList.any (Bh CC)=true:=by kernel_rfl
 have FB:=vU a;have Jd:=fun st al l d=>D7 (bytes:=120) (size:=10) (e:=46) (st:=st) (al:=al) (l:=l) (d:=d) (xs:=[]) (ys:=[BJ a]) (by simp only [yW,yY];omega) (by decide) (by unfold BJ;rfl);refine AN.2 ⟨by rw [LC];simp,fun l hl=>?_⟩;rw [LC] at hl;unfold Ct Av;unfold BJ at *;rw [<- Ih];rw [<- Cu] at t1;simp only [za,y7,or_false] at hl;rcases hl with rfl | rfl | rfl | rfl | rfl | rfl | rfl | rfl | rfl | rfl
 all_goals
  simp only [opsOf,Aa,Ac,y9,yX,A',y3,y4,y2,y0,yZ];simp only [S9,AT,seval,PY,PZ,Aw,Al,t1,hd,hb,hk,EB,hJ,FB,Jd,SX,AR,Bm,y5,y6,Ad]
  try rw [Ar _ 6 2 _ _ (by decide)]
  try rw [Ar _ 5 2 _ _ (by decide)]
  try rw [Ar _ 4 2 _ _ (by decide)]
  try rw [Ar _ 6 3 _ _ (by decide)]
  try rw [Ar _ 5 3 _ _ (by decide)]
  try rw [Ar _ 4 3 _ _ (by decide)]
  try rfl
theorem Rm {bx:List PBox} {id:Nat} {L:List Tk} {i o:Nat} {RL:PV} (hR:RL.pure=true) {j:Nat} (Ad:id < bx.length) (hc:C5 bx) (nm:List UInt8) (pr:Int) (dosV:PV) (EB:∀ n,dosV.under n=true) (et:Tr) (t0:Tk) {J:List PBox} (hJ:∀ n,(J.all fun x=>x.under n)=true)  {t:Nat} {c:Int} {i' o':Nat} (h:OC 40 [] id L RL i o t c i' o') :
 drawAll CC (Ae CC) (opsOf (Aa y9 [])) ⟨[.bp (bx.length+2) 0,.bp bx.length 0],BX bx id (Av L i o RL) (.cells 56 [.bp id 0] :: .cells 59 [.int .i64 (t0.1:Int),.str t0.2.1,.int .i64 (t0.2.2:Int)] :: .cells 52 (Ct nm pr .nils dosV et) :: J)⟩=some (.pan (Cr t c),⟨[],BX bx id (Av L i' o' RL) (.cells 56 [.bp id 0] :: .cells 59 [.int .i64 (t0.1:Int),.str t0.2.1,.int .i64 (t0.2.2:Int)] :: .cells 52 (Ct nm pr .nils dosV et) :: J)⟩):=by
 have t1:=At Ad hc hR h;have hd:∀ k,id < bx.length+k:=fun k=>by omega
 have hb:=sJ _ PW;obtain ⟨k,n,m,s,v,q,kids⟩:=et;have hk:∀ n,Au n (BS kids)=true:=fun z=>AE z _ (By kids);have bn:([56]:List TypeId).toArray.toList.any (Bh CC)=true:=by kernel_rfl
 refine AN.2 ⟨by rw [LC];simp,fun l hl=>?_⟩;rw [LC] at hl;unfold Ct Av;skip;rw [<- Ih];rw [<- Cu] at t1;simp only [za,y7,or_false] at hl;rcases hl with rfl | rfl | rfl | rfl | rfl | rfl | rfl | rfl | rfl | rfl
 all_goals
  simp only [opsOf,Aa,Ac,y9,yX,A',y3,y4,y2,y0,yZ];simp only [S9,AT,seval,PY,PZ,Aw,Al,t1,hd,hb,hk,EB,hJ,SX,AR,Bm,y5,y6,Ad]
theorem Rn {bx:List PBox} {id:Nat} {L:List Tk} {i o:Nat} {RL:PV} (hR:RL.pure=true) {j:Nat} (Ad:id < bx.length) (hc:C5 bx) (nm:List UInt8) (pr:Int) (dosV:PV) (EB:∀ n,dosV.under n=true) (et:Tr) (t0:Tk) {J:List PBox} (hJ:∀ n,(J.all fun x=>x.under n)=true) (x0:PV) (xs:List PV) (mn:∀ n,x0.under n=true) (fw:∀ n,Au n xs=true) (s7:xs.length<=7) (a:Tg) (h:Vq 40 [] id L RL i o (BJ a) j o) :
 drawAll CC (Ae CC) (opsOf (Aa y9 [])) ⟨[.bp (bx.length+2) 0,.bp bx.length 0],BX bx id (Av L i o RL) (.cells 56 [.bp id 0] :: .cells 59 [.int .i64 (t0.1:Int),.str t0.2.1,.int .i64 (t0.2.2:Int)] :: .cells 52 (Ct nm pr (.osl 46 (x0 :: xs)) dosV et) :: J)⟩=some (.normal,⟨(setT (setT (setT (setT (setT (setT (setT (setT [.bp (bx.length+2) 0,.bp bx.length 0] 2 (.bp (bx.length+2) 2)) 3 (.sl (x0 :: xs))) 4 (.bp id 0)) 5 (BJ a)) 6 (.osl 46 [BJ a])) 7 (.osl 46 (x0 :: (xs++[BJ a])))) 8 (.bp (bx.length+2) 2)) 7 (.sl (x0 :: (xs++[BJ a])))),BX bx id (Av L j o RL) (.cells 56 [.bp id 0] :: .cells 59 [.int .i64 (t0.1:Int),.str t0.2.1,.int .i64 (t0.2.2:Int)] :: .cells 52 (Ct nm pr (.osl 46 (x0 :: (xs++[BJ a]))) dosV et) :: J)⟩):=by
 have t1:=Ab Ad hc hR h;have hd:∀ k,id < bx.length+k:=fun k=>by omega
 have hb:=sJ _ PW;obtain ⟨k,n,m,s,v,q,kids⟩:=et;have hk:∀ n,Au n (BS kids)=true:=fun z=>AE z _ (By kids);have bn:([56]:List TypeId).toArray.toList.any (Bh CC)=true:=by kernel_rfl
 have FB:=vU a;have Jd:=fun st al l d=>D7 (bytes:=120) (size:=10) (e:=46) (st:=st) (al:=al) (l:=l) (d:=d) (xs:=x0 :: xs) (ys:=[BJ a]) (by simp only [yW,yY];omega) (by decide) (by unfold BJ;rfl);have Cz:=fun JG t1 e=>eM (co:=JG) (k:=40) (vs:=[.bp id 0]) (bx:=bx) (id:=id) (P:=Av L i o RL) (P':=Av L j o RL) (v:=BJ a) #[56] (.cells 56 [.bp id 0]) (.cells 59 [.int .i64 (t0.1:Int),.str t0.2.1,.int .i64 (t0.2.2:Int)]) (.cells 52 (Ct nm pr (.osl 46 (x0 :: xs)) dosV (.mk k n m s v q kids)) :: J) 3 2 (some 5) e bn rfl (by simp only [SU,SX,hd,decide_true]) hc (BH L i o hR) (BH L j o hR) (by simp only [SU,SX,hd,decide_true]) (BC _ a) t1;refine AN.2 ⟨by rw [LC];simp,fun l hl=>?_⟩;rw [LC] at hl;unfold Ct Av at|-Cz;unfold BJ at *;rw [<- Ih];rw [<- Cu] at t1;replace Cz:=fun e=>Cz JG (t1 [.cells 56 [.bp id 0],.cells 59 [.int .i64 (t0.1:Int),.str t0.2.1,.int .i64 (t0.2.2:Int)]] (by simp only [SU,SX,hd,decide_true,yW,yY])) e;simp only [za,y7,or_false] at hl;rcases hl with rfl | rfl | rfl | rfl | rfl | rfl | rfl | rfl | rfl | rfl
 all_goals
  simp only [opsOf,Aa,Ac,y9,yX,A',y3,y4,y2,y0,yZ];simp only [S9,AT,seval,PY,PZ,Aw,Al,t1,hd,hb,hk,EB,hJ,FB,Jd,mn,fw,Cz,C0,C2,SX,AR,Bm,y5,y6,Ad]
  try rw [Ar _ 6 2 _ _ (by decide)]
  try rw [Ar _ 5 2 _ _ (by decide)]
  try rw [Ar _ 4 2 _ _ (by decide)]
  try rw [Ar _ 6 3 _ _ (by decide)]
  try rw [Ar _ 5 3 _ _ (by decide)]
  try rw [Ar _ 4 3 _ _ (by decide)]
  try rfl
theorem P1 {bx:List PBox} {id:Nat} {L:List Tk} {i o:Nat} {RL:PV} (hR:RL.pure=true) {j:Nat} (Ad:id < bx.length) (hc:C5 bx) (nm:List UInt8) (pr:Int) (dosV:PV) (EB:∀ n,dosV.under n=true) (et:Tr) (t0:Tk) {J:List PBox} (hJ:∀ n,(J.all fun x=>x.under n)=true) (x0:PV) (xs:List PV) (mn:∀ n,x0.under n=true) (fw:∀ n,Au n xs=true) (s7:xs.length<=7) {t:Nat} {c:Int} {i' o':Nat} (h:OC 40 [] id L RL i o t c i' o') :
 drawAll CC (Ae CC) (opsOf (Aa y9 [])) ⟨[.bp (bx.length+2) 0,.bp bx.length 0],BX bx id (Av L i o RL) (.cells 56 [.bp id 0] :: .cells 59 [.int .i64 (t0.1:Int),.str t0.2.1,.int .i64 (t0.2.2:Int)] :: .cells 52 (Ct nm pr (.osl 46 (x0 :: xs)) dosV et) :: J)⟩=some (.pan (Cr t c),⟨[],BX bx id (Av L i' o' RL) (.cells 56 [.bp id 0] :: .cells 59 [.int .i64 (t0.1:Int),.str t0.2.1,.int .i64 (t0.2.2:Int)] :: .cells 52 (Ct nm pr (.osl 46 (x0 :: xs)) dosV et) :: J)⟩):=by
 have t1:=At Ad hc hR h;have hd:∀ k,id < bx.length+k:=fun k=>by omega
 have hb:=sJ _ PW;obtain ⟨k,n,m,s,v,q,kids⟩:=et;have hk:∀ n,Au n (BS kids)=true:=fun z=>AE z _ (By kids);have bn:([56]:List TypeId).toArray.toList.any (Bh CC)=true:=by kernel_rfl
 have Cz:=fun JG t1 e=>eN (co:=JG) (k:=40) (vs:=[.bp id 0]) (bx:=bx) (id:=id) (P:=Av L i o RL) (P':=Av L i' o' RL) (v:=Cr t c) #[56] (.cells 56 [.bp id 0]) (.cells 59 [.int .i64 (t0.1:Int),.str t0.2.1,.int .i64 (t0.2.2:Int)]) (.cells 52 (Ct nm pr (.osl 46 (x0 :: xs)) dosV (.mk k n m s v q kids)) :: J) 3 2 (some 5) e bn rfl (by simp only [SU,SX,hd,decide_true]) hc (BH L i o hR) (BH L i' o' hR) (by simp only [SU,SX,hd,decide_true]) (Et (bx.length+2) t c) t1;refine AN.2 ⟨by rw [LC];simp,fun l hl=>?_⟩;rw [LC] at hl;unfold Ct Av at|-Cz;skip;rw [<- Ih];rw [<- Cu] at t1;replace Cz:=fun e=>Cz JG (t1 [.cells 56 [.bp id 0],.cells 59 [.int .i64 (t0.1:Int),.str t0.2.1,.int .i64 (t0.2.2:Int)]] (by simp only [SU,SX,hd,decide_true,yW,yY])) e;simp only [za,y7,or_false] at hl;rcases hl with rfl | rfl | rfl | rfl | rfl | rfl | rfl | rfl | rfl | rfl
 all_goals
  simp only [opsOf,Aa,Ac,y9,yX,A',y3,y4,y2,y0,yZ];simp only [S9,AT,seval,PY,PZ,Aw,Al,t1,hd,hb,hk,EB,hJ,mn,fw,Cz,C0,C2,SX,AR,Bm,y5,y6,Ad]
theorem eP:Cl CC (opsOf (Aa y8 []))=false:=by kernel_rfl
theorem LD:Cc (opsOf (Aa y8 []))=[[0,1,2,3,4,5,6,7],[0,2,1,3,4,5,6,7],[0,2,3,1,4,5,6,7],[0,2,3,4,1,5,6,7],[2,0,1,3,4,5,6,7],[2,0,3,1,4,5,6,7],[2,0,3,4,1,5,6,7],[2,3,0,1,4,5,6,7],[2,3,0,4,1,5,6,7],[2,3,4,0,1,5,6,7]]:=by kernel_rfl
theorem TA {bx:List PBox} {id:Nat} {L:List Tk} {i o:Nat} {RL:PV} (hR:RL.pure=true) {j:Nat} (Ad:id < bx.length) (hc:C5 bx) (nm:List UInt8) (pr:Int) (onV:PV) (EB:∀ n,onV.under n=true) (et:Tr) (t0:Tk) {J:List PBox} (hJ:∀ n,(J.all fun x=>x.under n)=true)  (a:Sp) (h:Vq 42 [] id L RL i o (B1 a) j o) :
 drawAll CC (Ae CC) (opsOf (Aa y8 [])) ⟨[.bp (bx.length+2) 0,.bp bx.length 0],BX bx id (Av L i o RL) (.cells 56 [.bp id 0] :: .cells 59 [.int .i64 (t0.1:Int),.str t0.2.1,.int .i64 (t0.2.2:Int)] :: .cells 52 (Ct nm pr onV .nils et) :: J)⟩=some (.normal,⟨(setT (setT (setT (setT (setT (setT (setT (setT [.bp (bx.length+2) 0,.bp bx.length 0] 2 (.bp (bx.length+2) 14)) 3 (.nils)) 4 (.bp id 0)) 5 (B1 a)) 6 (.osl 49 [B1 a])) 7 (.osl 49 [B1 a])) 8 (.bp (bx.length+2) 14)) 7 (.sl [B1 a])),BX bx id (Av L j o RL) (.cells 56 [.bp id 0] :: .cells 59 [.int .i64 (t0.1:Int),.str t0.2.1,.int .i64 (t0.2.2:Int)] :: .cells 52 (Ct nm pr onV (.osl 49 [B1 a]) et) :: J)⟩):=by
 have t1:=Ab Ad hc hR h;have hd:∀ k,id < bx.length+k:=fun k=>by omega
 have hb:=sK _ PX;obtain ⟨k,n,m,s,v,q,kids⟩:=et;have hk:∀ n,Au n (BS kids)=true:=fun z=>AE z _ (By kids);have bn:([56]:List TypeId).toArray.toList.any (Bh CC)=true:=by kernel_rfl
 have FB:=vV a;have Jd:=fun st al l d=>D7 (bytes:=200) (size:=16) (e:=49) (st:=st) (al:=al) (l:=l) (d:=d) (xs:=[]) (ys:=[B1 a]) (by simp only [yW,yY];omega) (by decide) (by unfold B1;simp [PV.cells,IJ]);refine AN.2 ⟨by rw [LD];simp,fun l hl=>?_⟩;rw [LD] at hl;unfold Ct Av;unfold B1 at *;rw [<- Ih];rw [<- Cu] at t1;simp only [za,y7,or_false] at hl;rcases hl with rfl | rfl | rfl | rfl | rfl | rfl | rfl | rfl | rfl | rfl
 all_goals
  simp only [opsOf,Aa,Ac,y8,yX,A',y3,y4,y2,y0,yZ];simp only [S9,AT,seval,PY,PZ,Aw,Al,t1,hd,hb,hk,EB,hJ,FB,Jd,Jx,IJ,LB,SX,AR,Bm,y5,y6,Ad]
  try rw [Ar _ 6 2 _ _ (by decide)]
  try rw [Ar _ 5 2 _ _ (by decide)]
  try rw [Ar _ 4 2 _ _ (by decide)]
  try rw [Ar _ 6 3 _ _ (by decide)]
  try rw [Ar _ 5 3 _ _ (by decide)]
  try rw [Ar _ 4 3 _ _ (by decide)]
  try rfl
theorem Ro {bx:List PBox} {id:Nat} {L:List Tk} {i o:Nat} {RL:PV} (hR:RL.pure=true) {j:Nat} (Ad:id < bx.length) (hc:C5 bx) (nm:List UInt8) (pr:Int) (onV:PV) (EB:∀ n,onV.under n=true) (et:Tr) (t0:Tk) {J:List PBox} (hJ:∀ n,(J.all fun x=>x.under n)=true)  {t:Nat} {c:Int} {i' o':Nat} (h:OC 42 [] id L RL i o t c i' o') :
 drawAll CC (Ae CC) (opsOf (Aa y8 [])) ⟨[.bp (bx.length+2) 0,.bp bx.length 0],BX bx id (Av L i o RL) (.cells 56 [.bp id 0] :: .cells 59 [.int .i64 (t0.1:Int),.str t0.2.1,.int .i64 (t0.2.2:Int)] :: .cells 52 (Ct nm pr onV .nils et) :: J)⟩=some (.pan (Cr t c),⟨[],BX bx id (Av L i' o' RL) (.cells 56 [.bp id 0] :: .cells 59 [.int .i64 (t0.1:Int),.str t0.2.1,.int .i64 (t0.2.2:Int)] :: .cells 52 (Ct nm pr onV .nils et) :: J)⟩):=by
 have t1:=At Ad hc hR h;have hd:∀ k,id < bx.length+k:=fun k=>by omega
 have hb:=sK _ PX;obtain ⟨k,n,m,s,v,q,kids⟩:=et;have hk:∀ n,Au n (BS kids)=true:=fun z=>AE z _ (By kids);have bn:([56]:List TypeId).toArray.toList.any (Bh CC)=true:=by kernel_rfl
 refine AN.2 ⟨by rw [LD];simp,fun l hl=>?_⟩;rw [LD] at hl;unfold Ct Av;skip;rw [<- Ih];rw [<- Cu] at t1;simp only [za,y7,or_false] at hl;rcases hl with rfl | rfl | rfl | rfl | rfl | rfl | rfl | rfl | rfl | rfl
 all_goals
  simp only [opsOf,Aa,Ac,y8,yX,A',y3,y4,y2,y0,yZ];simp only [S9,AT,seval,PY,PZ,Aw,Al,t1,hd,hb,hk,EB,hJ,SX,AR,Bm,y5,y6,Ad]
theorem Rp {bx:List PBox} {id:Nat} {L:List Tk} {i o:Nat} {RL:PV} (hR:RL.pure=true) {j:Nat} (Ad:id < bx.length) (hc:C5 bx) (nm:List UInt8) (pr:Int) (onV:PV) (EB:∀ n,onV.under n=true) (et:Tr) (t0:Tk) {J:List PBox} (hJ:∀ n,(J.all fun x=>x.under n)=true) (x0:PV) (xs:List PV) (mn:∀ n,x0.under n=true) (fw:∀ n,Au n xs=true) (s7:xs.length<=7) (a:Sp) (h:Vq 42 [] id L RL i o (B1 a) j o) :
 drawAll CC (Ae CC) (opsOf (Aa y8 [])) ⟨[.bp (bx.length+2) 0,.bp bx.length 0],BX bx id (Av L i o RL) (.cells 56 [.bp id 0] :: .cells 59 [.int .i64 (t0.1:Int),.str t0.2.1,.int .i64 (t0.2.2:Int)] :: .cells 52 (Ct nm pr onV (.osl 49 (x0 :: xs)) et) :: J)⟩=some (.normal,⟨(setT (setT (setT (setT (setT (setT (setT (setT [.bp (bx.length+2) 0,.bp bx.length 0] 2 (.bp (bx.length+2) 14)) 3 (.sl (x0 :: xs))) 4 (.bp id 0)) 5 (B1 a)) 6 (.osl 49 [B1 a])) 7 (.osl 49 (x0 :: (xs++[B1 a])))) 8 (.bp (bx.length+2) 14)) 7 (.sl (x0 :: (xs++[B1 a])))),BX bx id (Av L j o RL) (.cells 56 [.bp id 0] :: .cells 59 [.int .i64 (t0.1:Int),.str t0.2.1,.int .i64 (t0.2.2:Int)] :: .cells 52 (Ct nm pr onV (.osl 49 (x0 :: (xs++[B1 a]))) et) :: J)⟩):=by
 have t1:=Ab Ad hc hR h;have hd:∀ k,id < bx.length+k:=fun k=>by omega
 have hb:=sK _ PX;obtain ⟨k,n,m,s,v,q,kids⟩:=et;have hk:∀ n,Au n (BS kids)=true:=fun z=>AE z _ (By kids);have bn:([56]:List TypeId).toArray.toList.any (Bh CC)=true:=by kernel_rfl
 have FB:=vV a;have Jd:=fun st al l d=>D7 (bytes:=200) (size:=16) (e:=49) (st:=st) (al:=al) (l:=l) (d:=d) (xs:=x0 :: xs) (ys:=[B1 a]) (by simp only [yW,yY];omega) (by decide) (by unfold B1;simp [PV.cells,IJ]);have Cz:=fun JG t1 e=>eM (co:=JG) (k:=42) (vs:=[.bp id 0]) (bx:=bx) (id:=id) (P:=Av L i o RL) (P':=Av L j o RL) (v:=B1 a) #[56] (.cells 56 [.bp id 0]) (.cells 59 [.int .i64 (t0.1:Int),.str t0.2.1,.int .i64 (t0.2.2:Int)]) (.cells 52 (Ct nm pr onV (.osl 49 (x0 :: xs)) (.mk k n m s v q kids)) :: J) 3 14 (some 5) e bn rfl (by simp only [SU,SX,hd,decide_true]) hc (BH L i o hR) (BH L j o hR) (by simp only [SU,SX,hd,decide_true]) (BP _ a) t1;refine AN.2 ⟨by rw [LD];simp,fun l hl=>?_⟩;rw [LD] at hl;unfold Ct Av at|-Cz;unfold B1 at *;rw [<- Ih];rw [<- Cu] at t1;replace Cz:=fun e=>Cz JG (t1 [.cells 56 [.bp id 0],.cells 59 [.int .i64 (t0.1:Int),.str t0.2.1,.int .i64 (t0.2.2:Int)]] (by simp only [SU,SX,hd,decide_true,yW,yY])) e;simp only [za,y7,or_false] at hl;rcases hl with rfl | rfl | rfl | rfl | rfl | rfl | rfl | rfl | rfl | rfl
 all_goals
  simp only [opsOf,Aa,Ac,y8,yX,A',y3,y4,y2,y0,yZ];simp only [S9,AT,seval,PY,PZ,Aw,Al,t1,hd,hb,hk,EB,hJ,FB,Jd,Jx,IJ,LB,mn,fw,Cz,C0,C2,SX,AR,Bm,y5,y6,Ad]
  try rw [Ar _ 6 2 _ _ (by decide)]
  try rw [Ar _ 5 2 _ _ (by decide)]
  try rw [Ar _ 4 2 _ _ (by decide)]
  try rw [Ar _ 6 3 _ _ (by decide)]
  try rw [Ar _ 5 3 _ _ (by decide)]
  try rw [Ar _ 4 3 _ _ (by decide)]
  try rfl
theorem P2 {bx:List PBox} {id:Nat} {L:List Tk} {i o:Nat} {RL:PV} (hR:RL.pure=true) {j:Nat} (Ad:id < bx.length) (hc:C5 bx) (nm:List UInt8) (pr:Int) (onV:PV) (EB:∀ n,onV.under n=true) (et:Tr) (t0:Tk) {J:List PBox} (hJ:∀ n,(J.all fun x=>x.under n)=true) (x0:PV) (xs:List PV) (mn:∀ n,x0.under n=true) (fw:∀ n,Au n xs=true) (s7:xs.length<=7) {t:Nat} {c:Int} {i' o':Nat} (h:OC 42 [] id L RL i o t c i' o') :
 drawAll CC (Ae CC) (opsOf (Aa y8 [])) ⟨[.bp (bx.length+2) 0,.bp bx.length 0],BX bx id (Av L i o RL) (.cells 56 [.bp id 0] :: .cells 59 [.int .i64 (t0.1:Int),.str t0.2.1,.int .i64 (t0.2.2:Int)] :: .cells 52 (Ct nm pr onV (.osl 49 (x0 :: xs)) et) :: J)⟩=some (.pan (Cr t c),⟨[],BX bx id (Av L i' o' RL) (.cells 56 [.bp id 0] :: .cells 59 [.int .i64 (t0.1:Int),.str t0.2.1,.int .i64 (t0.2.2:Int)] :: .cells 52 (Ct nm pr onV (.osl 49 (x0 :: xs)) et) :: J)⟩):=by
 have t1:=At Ad hc hR h;have hd:∀ k,id < bx.length+k:=fun k=>by omega
 have hb:=sK _ PX;obtain ⟨k,n,m,s,v,q,kids⟩:=et;have hk:∀ n,Au n (BS kids)=true:=fun z=>AE z _ (By kids);have bn:([56]:List TypeId).toArray.toList.any (Bh CC)=true:=by kernel_rfl
 have Cz:=fun JG t1 e=>eN (co:=JG) (k:=42) (vs:=[.bp id 0]) (bx:=bx) (id:=id) (P:=Av L i o RL) (P':=Av L i' o' RL) (v:=Cr t c) #[56] (.cells 56 [.bp id 0]) (.cells 59 [.int .i64 (t0.1:Int),.str t0.2.1,.int .i64 (t0.2.2:Int)]) (.cells 52 (Ct nm pr onV (.osl 49 (x0 :: xs)) (.mk k n m s v q kids)) :: J) 3 14 (some 5) e bn rfl (by simp only [SU,SX,hd,decide_true]) hc (BH L i o hR) (BH L i' o' hR) (by simp only [SU,SX,hd,decide_true]) (Et (bx.length+2) t c) t1;refine AN.2 ⟨by rw [LD];simp,fun l hl=>?_⟩;rw [LD] at hl;unfold Ct Av at|-Cz;skip;rw [<- Ih];rw [<- Cu] at t1;replace Cz:=fun e=>Cz JG (t1 [.cells 56 [.bp id 0],.cells 59 [.int .i64 (t0.1:Int),.str t0.2.1,.int .i64 (t0.2.2:Int)]] (by simp only [SU,SX,hd,decide_true,yW,yY])) e;simp only [za,y7,or_false] at hl;rcases hl with rfl | rfl | rfl | rfl | rfl | rfl | rfl | rfl | rfl | rfl
 all_goals
  simp only [opsOf,Aa,Ac,y8,yX,A',y3,y4,y2,y0,yZ];simp only [S9,AT,seval,PY,PZ,Aw,Al,t1,hd,hb,hk,EB,hJ,mn,fw,Cz,C0,C2,SX,AR,Bm,y5,y6,Ad]
theorem DU (n:Nat) (nm:List UInt8) (pr:Int) (on dos:PV) (e:Tr) (h1:on.under n=true) (h2:dos.under n=true):Au n (Ct nm pr on dos e)=true:=by
 obtain ⟨k,x,m,s,v,q,kids⟩:=e;unfold Ct;have hk:Au n (BS kids)=true:=AE n _ (By kids);simp only [SU,h1,h2,hk,zf]
theorem kE {bx:List PBox} {id:Nat} {L:List Tk} {i o:Nat} {RL:PV} (hR:RL.pure=true) (j:Nat) (Ad:id < bx.length) (hc:C5 bx) (nm:List UInt8) (pr:Int) (dosV:PV) (EB:∀ n,dosV.under n=true) (et:Tr) (t0:Tk) {J:List PBox} (hJ:∀ n,(J.all fun x=>x.under n)=true) (l:List Tg) (hl:l.length<=7) (a:Tg) (h:Vq 40 [] id L RL i o (BJ a) j o) :
 Ak CC (Ae CC) 39 [.bp (bx.length+2) 0,.bp bx.length 0] (BX bx id (Av L i o RL) (.cells 56 [.bp id 0] :: .cells 59 [.int .i64 (t0.1:Int),.str t0.2.1,.int .i64 (t0.2.2:Int)] :: .cells 52 (Ct nm pr (Dh 46 (l.map BJ)) dosV et) :: J))=some (.ret (.tup []),BX bx id (Av L j o RL) (.cells 56 [.bp id 0] :: .cells 59 [.int .i64 (t0.1:Int),.str t0.2.1,.int .i64 (t0.2.2:Int)] :: .cells 52 (Ct nm pr (Dh 46 ((l++[a]).map BJ)) dosV et) :: J)):=by
 have hd:∀ k,id < bx.length+k:=fun k=>by omega
 refine P0 rfl rfl hc (BH L _ _ hR) ?_ (by simp [CR.under,PV.under,Au]) ?_
 · have iz:∀ n,Au n (Ct nm pr (Dh 46 ((l++[a]).map BJ)) dosV et)=true:=fun n=>DU n nm pr _ _ et (Ei _ _ _ (Bn BJ BC _ _)) (EB _)
   simp only [SU,SX,hd,iz,hJ,decide_true,yW,yY,zf]
 cases l with
 | nil=>
  have Gl:=Tz (j:=j) hR Ad hc nm pr dosV EB et t0 hJ a h;simp only [ze,zd,zi,Dh];skip;rw [CK rfl];simp only [<- AP eO] at Gl;rw [<- B5];rw [<- Fm] at Gl;simp only [opsOf,Aa,Ac,y9,yX] at|-Gl;simp only [S9,AT,seval,PY,PZ,Aw,Al,Gl,SX,Ad]
 | cons x r=>
  have Gl:=Rn (j:=j) hR Ad hc nm pr dosV EB et t0 hJ (BJ x) (r.map BJ) (fun n=>BC n x) (fun n=>Bn BJ BC n r) (by rw [zk];simp only [yW] at hl;omega) a h;simp only [zd,zj,zh,ze,Dh];rw [CK rfl];simp only [<- AP eO] at Gl;rw [<- B5];rw [<- Fm] at Gl;simp only [opsOf,Aa,Ac,y9,yX] at|-Gl;simp only [S9,AT,seval,PY,PZ,Aw,Al,Gl,SX,Ad]
theorem gT {bx:List PBox} {id:Nat} {L:List Tk} {i o:Nat} {RL:PV} (hR:RL.pure=true) (j:Nat) (Ad:id < bx.length) (hc:C5 bx) (nm:List UInt8) (pr:Int) (dosV:PV) (EB:∀ n,dosV.under n=true) (et:Tr) (t0:Tk) {J:List PBox} (hJ:∀ n,(J.all fun x=>x.under n)=true) (l:List Tg) (hl:l.length<=7) {t:Nat} {c:Int} {i' o':Nat} (h:OC 40 [] id L RL i o t c i' o') :
 Ak CC (Ae CC) 39 [.bp (bx.length+2) 0,.bp bx.length 0] (BX bx id (Av L i o RL) (.cells 56 [.bp id 0] :: .cells 59 [.int .i64 (t0.1:Int),.str t0.2.1,.int .i64 (t0.2.2:Int)] :: .cells 52 (Ct nm pr (Dh 46 (l.map BJ)) dosV et) :: J))=some (.pan (Cr t c),BX bx id (Av L i' o' RL) (.cells 56 [.bp id 0] :: .cells 59 [.int .i64 (t0.1:Int),.str t0.2.1,.int .i64 (t0.2.2:Int)] :: .cells 52 (Ct nm pr (Dh 46 (l.map BJ)) dosV et) :: J)):=by
 have hd:∀ k,id < bx.length+k:=fun k=>by omega
 refine P0 rfl rfl hc (BH L _ _ hR) ?_ (Et _ _ _) ?_
 · have iz:∀ n,Au n (Ct nm pr (Dh 46 (l.map BJ)) dosV et)=true:=fun n=>DU n nm pr _ _ et (Ei _ _ _ (Bn BJ BC _ _)) (EB _)
   simp only [SU,SX,hd,iz,hJ,decide_true,yW,yY,zf]
 cases l with
 | nil=>
  have Gl:=Rm (j:=j) hR Ad hc nm pr dosV EB et t0 hJ  h;simp only [ze,zd,zi,Dh];skip;rw [CK rfl];simp only [<- AP eO] at Gl;rw [<- B5];rw [<- Fm] at Gl;simp only [opsOf,Aa,Ac,y9,yX] at|-Gl;simp only [S9,AT,seval,PY,PZ,Aw,Al,Gl,SX,Ad]
 | cons x r=>
  have Gl:=P1 (j:=j) hR Ad hc nm pr dosV EB et t0 hJ (BJ x) (r.map BJ) (fun n=>BC n x) (fun n=>Bn BJ BC n r) (by rw [zk];simp only [yW] at hl;omega)  h;simp only [zd,zj,zh,ze,Dh];rw [CK rfl];simp only [<- AP eO] at Gl;rw [<- B5];rw [<- Fm] at Gl;simp only [opsOf,Aa,Ac,y9,yX] at|-Gl;simp only [S9,AT,seval,PY,PZ,Aw,Al,Gl,SX,Ad]
theorem kF {bx:List PBox} {id:Nat} {L:List Tk} {i o:Nat} {RL:PV} (hR:RL.pure=true) (j:Nat) (Ad:id < bx.length) (hc:C5 bx) (nm:List UInt8) (pr:Int) (onV:PV) (EB:∀ n,onV.under n=true) (et:Tr) (t0:Tk) {J:List PBox} (hJ:∀ n,(J.all fun x=>x.under n)=true) (l:List Sp) (hl:l.length<=7) (a:Sp) (h:Vq 42 [] id L RL i o (B1 a) j o) :
 Ak CC (Ae CC) 41 [.bp (bx.length+2) 0,.bp bx.length 0] (BX bx id (Av L i o RL) (.cells 56 [.bp id 0] :: .cells 59 [.int .i64 (t0.1:Int),.str t0.2.1,.int .i64 (t0.2.2:Int)] :: .cells 52 (Ct nm pr onV (Dh 49 (l.map B1)) et) :: J))=some (.ret (.tup []),BX bx id (Av L j o RL) (.cells 56 [.bp id 0] :: .cells 59 [.int .i64 (t0.1:Int),.str t0.2.1,.int .i64 (t0.2.2:Int)] :: .cells 52 (Ct nm pr onV (Dh 49 ((l++[a]).map B1)) et) :: J)):=by
 have hd:∀ k,id < bx.length+k:=fun k=>by omega
 refine P0 rfl rfl hc (BH L _ _ hR) ?_ (by simp [CR.under,PV.under,Au]) ?_
 · have iz:∀ n,Au n (Ct nm pr onV (Dh 49 ((l++[a]).map B1)) et)=true:=fun n=>DU n nm pr _ _ et (EB _) (Ei _ _ _ (Bn B1 BP _ _))
   simp only [SU,SX,hd,iz,hJ,decide_true,yW,yY,zf]
 cases l with
 | nil=>
  have Gl:=TA (j:=j) hR Ad hc nm pr onV EB et t0 hJ a h;simp only [ze,zd,zi,Dh];skip;rw [CL rfl];simp only [<- AP eP] at Gl;rw [<- B5];rw [<- Fm] at Gl;simp only [opsOf,Aa,Ac,y8,yX] at|-Gl;simp only [S9,AT,seval,PY,PZ,Aw,Al,Gl,SX,Ad]
  try rfl
 | cons x r=>
  have Gl:=Rp (j:=j) hR Ad hc nm pr onV EB et t0 hJ (B1 x) (r.map B1) (fun n=>BP n x) (fun n=>Bn B1 BP n r) (by rw [zk];simp only [yW] at hl;omega) a h;simp only [zd,zj,zh,ze,Dh];rw [CL rfl];simp only [<- AP eP] at Gl;rw [<- B5];rw [<- Fm] at Gl;simp only [opsOf,Aa,Ac,y8,yX] at|-Gl;simp only [S9,AT,seval,PY,PZ,Aw,Al,Gl,SX,Ad]
  try rfl
theorem gU {bx:List PBox} {id:Nat} {L:List Tk} {i o:Nat} {RL:PV} (hR:RL.pure=true) (j:Nat) (Ad:id < bx.length) (hc:C5 bx) (nm:List UInt8) (pr:Int) (onV:PV) (EB:∀ n,onV.under n=true) (et:Tr) (t0:Tk) {J:List PBox} (hJ:∀ n,(J.all fun x=>x.under n)=true) (l:List Sp) (hl:l.length<=7) {t:Nat} {c:Int} {i' o':Nat} (h:OC 42 [] id L RL i o t c i' o') :
 Ak CC (Ae CC) 41 [.bp (bx.length+2) 0,.bp bx.length 0] (BX bx id (Av L i o RL) (.cells 56 [.bp id 0] :: .cells 59 [.int .i64 (t0.1:Int),.str t0.2.1,.int .i64 (t0.2.2:Int)] :: .cells 52 (Ct nm pr onV (Dh 49 (l.map B1)) et) :: J))=some (.pan (Cr t c),BX bx id (Av L i' o' RL) (.cells 56 [.bp id 0] :: .cells 59 [.int .i64 (t0.1:Int),.str t0.2.1,.int .i64 (t0.2.2:Int)] :: .cells 52 (Ct nm pr onV (Dh 49 (l.map B1)) et) :: J)):=by
 have hd:∀ k,id < bx.length+k:=fun k=>by omega
 refine P0 rfl rfl hc (BH L _ _ hR) ?_ (Et _ _ _) ?_
 · have iz:∀ n,Au n (Ct nm pr onV (Dh 49 (l.map B1)) et)=true:=fun n=>DU n nm pr _ _ et (EB _) (Ei _ _ _ (Bn B1 BP _ _))
   simp only [SU,SX,hd,iz,hJ,decide_true,yW,yY,zf]
 cases l with
 | nil=>
  have Gl:=Ro (j:=j) hR Ad hc nm pr onV EB et t0 hJ  h;simp only [ze,zd,zi,Dh];skip;rw [CL rfl];simp only [<- AP eP] at Gl;rw [<- B5];rw [<- Fm] at Gl;simp only [opsOf,Aa,Ac,y8,yX] at|-Gl;simp only [S9,AT,seval,PY,PZ,Aw,Al,Gl,SX,Ad]
  try rfl
 | cons x r=>
  have Gl:=P2 (j:=j) hR Ad hc nm pr onV EB et t0 hJ (B1 x) (r.map B1) (fun n=>BP n x) (fun n=>Bn B1 BP n r) (by rw [zk];simp only [yW] at hl;omega)  h;simp only [zd,zj,zh,ze,Dh];rw [CL rfl];simp only [<- AP eP] at Gl;rw [<- B5];rw [<- Fm] at Gl;simp only [opsOf,Aa,Ac,y8,yX] at|-Gl;simp only [S9,AT,seval,PY,PZ,Aw,Al,Gl,SX,Ad]
  try rfl
theorem Jy:Bk CC y1 (y1.body.getD .skip)=true:=by kernel_rfl
theorem I':CC.P.funcs[38]?=some y1:=by kernel_rfl
theorem E3 {x:List PV} {b:List PBox} (h:x.length.ble y1.ntmps=true):Ae CC 38 x b=CB CC y1.results.toList (Cp CC (y1.body.getD .skip) ⟨x,b⟩):=Ah (fn:=y1) (c:=y1.body.getD .skip) rfl rfl I' rfl Jy (zg h)
def eR {α:Type} (F:FuncId) (part:Nat->PR α) (id:Nat) (L:List Tk) (RL:PV) (o:Nat) (t0:Tk) (J:List PBox) (RBX:List α->PBox):Prop:=∀ i,i < L.length->∀ acc:List α,acc.length<=7->match part i with
 | .ok a j=>∀ (bx:List PBox) (Ad:id < bx.length) (hc:C5 bx),Ak CC (Ae CC) F [.bp (bx.length+2) 0,.bp bx.length 0] (BX bx id (Av L i o RL) (.cells 56 [.bp id 0] :: .cells 59 [.int .i64 (t0.1:Int),.str t0.2.1,.int .i64 (t0.2.2:Int)] :: RBX acc :: J))=some (.ret (.tup []),(BX bx id (Av L j o RL) (.cells 56 [.bp id 0] :: .cells 59 [.int .i64 (t0.1:Int),.str t0.2.1,.int .i64 (t0.2.2:Int)] :: RBX (acc++[a]) :: J)))
 | .bad t c=>∃ i' o',∀ (bx:List PBox) (Ad:id < bx.length) (hc:C5 bx),Ak CC (Ae CC) F [.bp (bx.length+2) 0,.bp bx.length 0] (BX bx id (Av L i o RL) (.cells 56 [.bp id 0] :: .cells 59 [.int .i64 (t0.1:Int),.str t0.2.1,.int .i64 (t0.2.2:Int)] :: RBX acc :: J))=some (.pan (Cr t c),(BX bx id (Av L i' o' RL) (.cells 56 [.bp id 0] :: .cells 59 [.int .i64 (t0.1:Int),.str t0.2.1,.int .i64 (t0.2.2:Int)] :: RBX acc :: J)))
 | .out=>True
def uf {α:Type} (Lc:Code) (F:FuncId) (w:List UInt8) (id:Nat) (L:List Tk) (RL:PV) (o:Nat) (t0:Tk) (J:List PBox) (RBX:List α->PBox) (i:Nat) (acc:List α) (r:PR (List α)):Prop:=match r with
 | .ok l j=>∀ (bx:List PBox) (Ad:id < bx.length) (hc:C5 bx) (e:List PV),getT e 0=.bp id 0->getT e 1=.str w->getT e 2=.fn F [] [.bp (bx.length+2) 0,.bp bx.length 0]->getT e 6=.int .i64 (acc.length:Int)->∃ e',Cp CC Lc ⟨e,(BX bx id (Av L i o RL) (.cells 56 [.bp id 0] :: .cells 59 [.int .i64 (t0.1:Int),.str t0.2.1,.int .i64 (t0.2.2:Int)] :: RBX acc :: J))⟩=some (.exit 0,⟨e',(BX bx id (Av L j o RL) (.cells 56 [.bp id 0] :: .cells 59 [.int .i64 (t0.1:Int),.str t0.2.1,.int .i64 (t0.2.2:Int)] :: RBX l :: J))⟩)
 | .bad t c=>∃ i' o',∀ (bx:List PBox) (Ad:id < bx.length) (hc:C5 bx) (e:List PV),getT e 0=.bp id 0->getT e 1=.str w->getT e 2=.fn F [] [.bp (bx.length+2) 0,.bp bx.length 0]->getT e 6=.int .i64 (acc.length:Int)->∃ e' acc',Cp CC Lc ⟨e,(BX bx id (Av L i o RL) (.cells 56 [.bp id 0] :: .cells 59 [.int .i64 (t0.1:Int),.str t0.2.1,.int .i64 (t0.2.2:Int)] :: RBX acc :: J))⟩=some (.pan (Cr t c),⟨e',(BX bx id (Av L i' o' RL) (.cells 56 [.bp id 0] :: .cells 59 [.int .i64 (t0.1:Int),.str t0.2.1,.int .i64 (t0.2.2:Int)] :: RBX acc' :: J))⟩)
 | .out=>True
theorem Gd {α:Type} {Lc:Code} {F:FuncId} {w:List UInt8} {id:Nat} {L:List Tk} {RL:PV} {o:Nat} {t0:Tk} {J:List PBox} {RBX:List α->PBox} {i:Nat} {acc:List α}:uf Lc F w id L RL o t0 J RBX i acc .out:=trivial
theorem XU {α:Type} (Lc:Code) (hL:Lc=Aa y1 [1,0]) {F:FuncId} {wd:List UInt8} {id:Nat} {L:List Tk} {RL:PV} {o:Nat} {t0:Tk} {J:List PBox} {RBX:List α->PBox} {part:Nat->PR α} (hR:RL.pure=true) (hT:TokOK L) (hJ:∀ n,(J.all fun x=>x.under n)=true) (bA:∀ n acc,(RBX acc).under n=true) (Bq:∀ i a j,i < L.length->part i=.ok a j->j < L.length) (hp:eR F part id L RL o t0 J RBX):∀ (m i:Nat) (acc:List α),i < L.length->acc.length<=8->uf Lc F wd id L RL o t0 J RBX i acc (BU L wd part m acc i):=by
 intro m
 induction m with
 | zero=>intro i acc _ _;exact Gd
 | succ m ih=>
  intro i acc hi wv;rw [BU];have hw:IntKind.wrap .i64 ((acc.length:Int)+1)=((acc.length+1:Nat):Int):=by rw [wrap_i64 ⟨by omega,by omega⟩];omega
  by_cases hz:acc.length=0
  · rw [if_pos (Or.inl hz),if_neg (by omega)]
    have h0:(((acc.length:Nat):Int) == 0)=true:=by rw [hz];rfl
    have h8:(((acc.length:Nat):Int) == 8)=false:=by rw [hz];rfl
    have h1:=CE (id:=id) (o:=o) (i:=i) hR hi hT 1 1 rfl wd;cases r1:BM L 1 wd i with
    | out=>exact Gd
    | bad t c=>
     rw [r1] at h1;obtain ⟨i',o',h1⟩:=h1;refine ⟨i',o',fun bx Ad hc e g0 g1 g2 g6=>?_⟩;have hd:∀ k,id < bx.length+k:=fun k=>by omega
     have pbp2:Aq [PV.bp (bx.length+2) 0,PV.bp bx.length 0]=false:=rfl;have t1:=At Ad hc hR h1;rw [A0 (Aa y1 [1,0,0]) hL];unfold Av;rw [<- Am];rw [<- AK] at t1;simp only [Aa,Ac,y1,yX];simp only [S9,Ag,seval,PY,PZ,Aw,Al,g0,g1,g2,g6,hd,bA,hJ,pbp2,h0,h8,t1,SX,Ad];exact ⟨_,_,rfl⟩
    | ok u i1=>
     rw [r1] at h1;dsimp only [AA];have B8:=(A6 hT hi (by decide) r1).2;have h2:=hp i1 B8 acc (by omega);cases r2:part i1 with
     | out=>exact Gd
     | bad t c=>
      rw [r2] at h2;obtain ⟨i',o',h2⟩:=h2;refine ⟨i',o',fun bx Ad hc e g0 g1 g2 g6=>?_⟩;have hd:∀ k,id < bx.length+k:=fun k=>by omega
      have pbp2:Aq [PV.bp (bx.length+2) 0,PV.bp bx.length 0]=false:=rfl;have t1:=Ab Ad hc hR h1;have t2:=h2 bx Ad hc;unfold Av at t2;rw [A0 (Aa y1 [1,0,0]) hL];unfold Av;rw [<- Am];rw [<- AK] at t1 t2;simp only [Aa,Ac,y1,yX];simp only [S9,Ag,seval,PY,PZ,Aw,Al,g0,g1,g2,g6,hd,bA,hJ,pbp2,h0,h8,t1,t2,SX,Ad];exact ⟨_,_,rfl⟩
     | ok a i2=>
      rw [r2] at h2;dsimp only [AA];have FV:=Bq i1 a i2 B8 r2;have h3:=CE (id:=id) (o:=o) (i:=i2) hR FV hT 4 4 rfl [59];cases r3:BM L 4 [59] i2 with
      | out=>exact Gd
      | bad t c=>
       rw [r3] at h3;obtain ⟨i',o',h3⟩:=h3;refine ⟨i',o',fun bx Ad hc e g0 g1 g2 g6=>?_⟩;have hd:∀ k,id < bx.length+k:=fun k=>by omega
       have pbp2:Aq [PV.bp (bx.length+2) 0,PV.bp bx.length 0]=false:=rfl;have t1:=Ab Ad hc hR h1;have t2:=h2 bx Ad hc;unfold Av at t2;have t3:=At Ad hc hR h3;rw [A0 (Aa y1 [1,0,0]) hL];unfold Av;rw [<- Am];rw [<- AK] at t1 t2 t3;simp only [Aa,Ac,y1,yX];simp only [S9,Ag,seval,PY,PZ,Aw,Al,g0,g1,g2,g6,hd,bA,hJ,pbp2,h0,h8,t1,t2,t3,SX,Ad];exact ⟨_,_,rfl⟩
      | ok u3 i3=>
       rw [r3] at h3;dsimp only [AA];have VS:=(A6 hT FV (by decide) r3).2;have key:=ih i3 (acc++[a]) VS (by rw [zn];simp only [yW,yY];omega);have sZ:(acc++[a]).length=acc.length+1:=by simp
       cases r4:BU L wd part m (acc++[a]) i3 with
       | out=>exact Gd
       | bad t c=>
        rw [r4] at key;obtain ⟨i',o',key⟩:=key;refine ⟨i',o',fun bx Ad hc e g0 g1 g2 g6=>?_⟩;have key:=key bx Ad hc;rw [sZ] at key;have hd:∀ k,id < bx.length+k:=fun k=>by omega
        have pbp2:Aq [PV.bp (bx.length+2) 0,PV.bp bx.length 0]=false:=rfl;have t1:=Ab Ad hc hR h1;have t2:=h2 bx Ad hc;unfold Av at t2;have t3:=Ab Ad hc hR h3;rw [A0 (Aa y1 [1,0,0]) hL];unfold Av at key |-;rw [<- Am];rw [<- Am] at key;rw [<- AK] at t1 t2 t3;simp only [Aa,Ac,y1,yX];simp only [S9,Ag,seval,PY,PZ,Aw,Al,g0,g1,g2,g6,hd,bA,hJ,pbp2,h0,h8,hw,t1,t2,t3,SX,Ad];refine key _ ?_ ?_ ?_ ?_
        · simp only [S7,Ag,seval,g0]
        · simp only [S7,Ag,seval,g1]
        · simp only [S7,Ag,seval,g2]
        · simp only [S7,Ag,seval]
       | ok l j=>
        rw [r4] at key;refine fun bx Ad hc e g0 g1 g2 g6=>?_;have key:=key bx Ad hc;rw [sZ] at key;have hd:∀ k,id < bx.length+k:=fun k=>by omega
        have pbp2:Aq [PV.bp (bx.length+2) 0,PV.bp bx.length 0]=false:=rfl;have t1:=Ab Ad hc hR h1;have t2:=h2 bx Ad hc;unfold Av at t2;have t3:=Ab Ad hc hR h3;rw [A0 (Aa y1 [1,0,0]) hL];unfold Av at key |-;rw [<- Am];rw [<- Am] at key;rw [<- AK] at t1 t2 t3;simp only [Aa,Ac,y1,yX];simp only [S9,Ag,seval,PY,PZ,Aw,Al,g0,g1,g2,g6,hd,bA,hJ,pbp2,h0,h8,hw,t1,t2,t3,SX,Ad];refine key _ ?_ ?_ ?_ ?_
        · simp only [S7,Ag,seval,g0]
        · simp only [S7,Ag,seval,g1]
        · simp only [S7,Ag,seval,g2]
        · simp only [S7,Ag,seval]
  · have h0:(((acc.length:Nat):Int) == 0)=false:=beq_eq_false_iff_ne.2 (by omega)
    cases hk:B2 L 1 wd i with
    | false=>
     rw [if_neg (by simp [hz])];refine fun bx Ad hc e g0 g1 g2 g6=>?_;have hd:∀ k,id < bx.length+k:=fun k=>by omega
     have pbp2:Aq [PV.bp (bx.length+2) 0,PV.bp bx.length 0]=false:=rfl;have tis:=Ab Ad hc hR (D1 (id:=id) (o:=o) hR hi 1 1 rfl wd);rw [hk] at tis;rw [A0 (Aa y1 [1,0,0]) hL];unfold Av;rw [<- Am];rw [<- AK] at tis;simp only [Aa,Ac,y1,yX];simp only [S9,Ag,seval,PY,PZ,Aw,Al,g0,g1,g2,g6,hd,bA,hJ,pbp2,h0,tis,SX,Ad];exact ⟨_,rfl⟩
    | true=>
     rw [if_pos (Or.inr rfl)];by_cases yc:acc.length=8
     · rw [if_pos yc]
       have h8:(((acc.length:Nat):Int) == 8)=true:=by rw [yc];rfl
       refine ⟨i,o,fun bx Ad hc e g0 g1 g2 g6=>?_⟩;have hd:∀ k,id < bx.length+k:=fun k=>by omega
       have pbp2:Aq [PV.bp (bx.length+2) 0,PV.bp bx.length 0]=false:=rfl;have tis:=Ab Ad hc hR (D1 (id:=id) (o:=o) hR hi 1 1 rfl wd);rw [hk] at tis;have t2:=Ab Ad hc hR (AJ (id:=id) (o:=o) hR hi);have t3:=At Ad hc hR (Dk (id:=id) (i:=i) (o:=o) (L:=L) (RL:=RL) hR (tokAt L i).1 (tokAt L i).2.1 (tokAt L i).2.2 3);unfold atT;rw [A0 (Aa y1 [1,0,0]) hL];unfold Av;rw [<- Am];rw [<- AK] at tis t2 t3;simp only [Aa,Ac,y1,yX];simp only [S9,Ag,seval,PY,PZ,Aw,Al,g0,g1,g2,g6,hd,bA,hJ,pbp2,h0,tis,h8,t2,t3,SX,Ad];exact ⟨_,_,rfl⟩
     · rw [if_neg yc]
       have h8:(((acc.length:Nat):Int) == 8)=false:=beq_eq_false_iff_ne.2 (by omega);have h1:=CE (id:=id) (o:=o) (i:=i) hR hi hT 1 1 rfl wd;cases r1:BM L 1 wd i with
       | out=>exact Gd
       | bad t c=>
        rw [r1] at h1;obtain ⟨i',o',h1⟩:=h1;refine ⟨i',o',fun bx Ad hc e g0 g1 g2 g6=>?_⟩;have hd:∀ k,id < bx.length+k:=fun k=>by omega
        have pbp2:Aq [PV.bp (bx.length+2) 0,PV.bp bx.length 0]=false:=rfl;have tis:=Ab Ad hc hR (D1 (id:=id) (o:=o) hR hi 1 1 rfl wd);rw [hk] at tis;have t1:=At Ad hc hR h1;rw [A0 (Aa y1 [1,0,0]) hL];unfold Av;rw [<- Am];rw [<- AK] at tis t1;simp only [Aa,Ac,y1,yX];simp only [S9,Ag,seval,PY,PZ,Aw,Al,g0,g1,g2,g6,hd,bA,hJ,pbp2,h0,tis,h8,t1,SX,Ad];exact ⟨_,_,rfl⟩
       | ok u i1=>
        rw [r1] at h1;dsimp only [AA];have B8:=(A6 hT hi (by decide) r1).2;have h2:=hp i1 B8 acc (by omega);cases r2:part i1 with
        | out=>exact Gd
        | bad t c=>
         rw [r2] at h2;obtain ⟨i',o',h2⟩:=h2;refine ⟨i',o',fun bx Ad hc e g0 g1 g2 g6=>?_⟩;have hd:∀ k,id < bx.length+k:=fun k=>by omega
         have pbp2:Aq [PV.bp (bx.length+2) 0,PV.bp bx.length 0]=false:=rfl;have tis:=Ab Ad hc hR (D1 (id:=id) (o:=o) hR hi 1 1 rfl wd);rw [hk] at tis;have t1:=Ab Ad hc hR h1;have t2:=h2 bx Ad hc;unfold Av at t2;rw [A0 (Aa y1 [1,0,0]) hL];unfold Av;rw [<- Am];rw [<- AK] at tis t1 t2;simp only [Aa,Ac,y1,yX];simp only [S9,Ag,seval,PY,PZ,Aw,Al,g0,g1,g2,g6,hd,bA,hJ,pbp2,h0,tis,h8,t1,t2,SX,Ad];exact ⟨_,_,rfl⟩
        | ok a i2=>
         rw [r2] at h2;dsimp only [AA];have FV:=Bq i1 a i2 B8 r2;have h3:=CE (id:=id) (o:=o) (i:=i2) hR FV hT 4 4 rfl [59];cases r3:BM L 4 [59] i2 with
         | out=>exact Gd
         | bad t c=>
          rw [r3] at h3;obtain ⟨i',o',h3⟩:=h3;refine ⟨i',o',fun bx Ad hc e g0 g1 g2 g6=>?_⟩;have hd:∀ k,id < bx.length+k:=fun k=>by omega
          have pbp2:Aq [PV.bp (bx.length+2) 0,PV.bp bx.length 0]=false:=rfl;have tis:=Ab Ad hc hR (D1 (id:=id) (o:=o) hR hi 1 1 rfl wd);rw [hk] at tis;have t1:=Ab Ad hc hR h1;have t2:=h2 bx Ad hc;unfold Av at t2;have t3:=At Ad hc hR h3;rw [A0 (Aa y1 [1,0,0]) hL];unfold Av;rw [<- Am];rw [<- AK] at tis t1 t2 t3;simp only [Aa,Ac,y1,yX];simp only [S9,Ag,seval,PY,PZ,Aw,Al,g0,g1,g2,g6,hd,bA,hJ,pbp2,h0,tis,h8,t1,t2,t3,SX,Ad];exact ⟨_,_,rfl⟩
         | ok u3 i3=>
          rw [r3] at h3;dsimp only [AA];have VS:=(A6 hT FV (by decide) r3).2;have key:=ih i3 (acc++[a]) VS (by rw [zn];simp only [yW,yY];omega);have sZ:(acc++[a]).length=acc.length+1:=by simp
          cases r4:BU L wd part m (acc++[a]) i3 with
          | out=>exact Gd
          | bad t c=>
           rw [r4] at key;obtain ⟨i',o',key⟩:=key;refine ⟨i',o',fun bx Ad hc e g0 g1 g2 g6=>?_⟩;have key:=key bx Ad hc;rw [sZ] at key;have hd:∀ k,id < bx.length+k:=fun k=>by omega
           have pbp2:Aq [PV.bp (bx.length+2) 0,PV.bp bx.length 0]=false:=rfl;have tis:=Ab Ad hc hR (D1 (id:=id) (o:=o) hR hi 1 1 rfl wd);rw [hk] at tis;have t1:=Ab Ad hc hR h1;have t2:=h2 bx Ad hc;unfold Av at t2;have t3:=Ab Ad hc hR h3;rw [A0 (Aa y1 [1,0,0]) hL];unfold Av at key |-;rw [<- Am];rw [<- Am] at key;rw [<- AK] at tis t1 t2 t3;simp only [Aa,Ac,y1,yX];simp only [S9,Ag,seval,PY,PZ,Aw,Al,g0,g1,g2,g6,hd,bA,hJ,pbp2,h0,tis,h8,hw,t1,t2,t3,SX,Ad];refine key _ ?_ ?_ ?_ ?_
           · simp only [S7,Ag,seval,g0]
           · simp only [S7,Ag,seval,g1]
           · simp only [S7,Ag,seval,g2]
           · simp only [S7,Ag,seval]
          | ok l j=>
           rw [r4] at key;refine fun bx Ad hc e g0 g1 g2 g6=>?_;have key:=key bx Ad hc;rw [sZ] at key;have hd:∀ k,id < bx.length+k:=fun k=>by omega
           have pbp2:Aq [PV.bp (bx.length+2) 0,PV.bp bx.length 0]=false:=rfl;have tis:=Ab Ad hc hR (D1 (id:=id) (o:=o) hR hi 1 1 rfl wd);rw [hk] at tis;have t1:=Ab Ad hc hR h1;have t2:=h2 bx Ad hc;unfold Av at t2;have t3:=Ab Ad hc hR h3;rw [A0 (Aa y1 [1,0,0]) hL];unfold Av at key |-;rw [<- Am];rw [<- Am] at key;rw [<- AK] at tis t1 t2 t3;simp only [Aa,Ac,y1,yX];simp only [S9,Ag,seval,PY,PZ,Aw,Al,g0,g1,g2,g6,hd,bA,hJ,pbp2,h0,tis,h8,hw,t1,t2,t3,SX,Ad];refine key _ ?_ ?_ ?_ ?_
           · simp only [S7,Ag,seval,g0]
           · simp only [S7,Ag,seval,g1]
           · simp only [S7,Ag,seval,g2]
           · simp only [S7,Ag,seval]
def qJ {α:Type} (F:FuncId) (w:List UInt8) (id:Nat) (L:List Tk) (RL:PV) (o:Nat) (t0:Tk) (J:List PBox) (RBX:List α->PBox) (i:Nat) (r:PR (List α)):Prop:=match r with
 | .ok l j=>∀ (bx:List PBox) (Ad:id < bx.length) (hc:C5 bx),Ak CC (Ae CC) 38 [.bp id 0,.str w,.fn F [] [.bp (bx.length+2) 0,.bp bx.length 0]] (BX bx id (Av L i o RL) (.cells 56 [.bp id 0] :: .cells 59 [.int .i64 (t0.1:Int),.str t0.2.1,.int .i64 (t0.2.2:Int)] :: RBX [] :: J))=some (.ret (.tup []),(BX bx id (Av L j o RL) (.cells 56 [.bp id 0] :: .cells 59 [.int .i64 (t0.1:Int),.str t0.2.1,.int .i64 (t0.2.2:Int)] :: RBX l :: J)))
 | .bad t c=>∃ i' o',∀ (bx:List PBox) (Ad:id < bx.length) (hc:C5 bx),∃ acc',Ak CC (Ae CC) 38 [.bp id 0,.str w,.fn F [] [.bp (bx.length+2) 0,.bp bx.length 0]] (BX bx id (Av L i o RL) (.cells 56 [.bp id 0] :: .cells 59 [.int .i64 (t0.1:Int),.str t0.2.1,.int .i64 (t0.2.2:Int)] :: RBX [] :: J))=some (.pan (Cr t c),(BX bx id (Av L i' o' RL) (.cells 56 [.bp id 0] :: .cells 59 [.int .i64 (t0.1:Int),.str t0.2.1,.int .i64 (t0.2.2:Int)] :: RBX acc' :: J)))
 | .out=>True
theorem Z5 {α:Type} {F:FuncId} {wd:List UInt8} {id:Nat} {L:List Tk} {RL:PV} {o:Nat} {t0:Tk} {J:List PBox} {RBX:List α->PBox} {part:Nat->PR α} (hR:RL.pure=true) (hT:TokOK L) (hJ:∀ n,(J.all fun x=>x.under n)=true) (bA:∀ n acc,(RBX acc).under n=true) (Bq:∀ i a j,i < L.length->part i=.ok a j->j < L.length) (hp:eR F part id L RL o t0 J RBX) {i:Nat} (hi:i < L.length):qJ F wd id L RL o t0 J RBX i (BU L wd part 10 [] i):=by
 have Af:=XU _ rfl (wd:=wd) hR hT hJ bA Bq hp 10 i [] hi (by simp);cases r:BU L wd part 10 [] i with
 | out=>trivial
 | bad t c=>
  rw [r] at Af;obtain ⟨i',o',Af⟩:=Af;refine ⟨i',o',fun bx Ad hc=>?_⟩;have Af:=Af bx Ad hc;have hd:∀ k,id < bx.length+k:=fun k=>by omega
  have hx:∃ acc', Ae CC 38 [.bp id 0,.str wd,.fn F [] [.bp (bx.length+2) 0,.bp bx.length 0]] (BX bx id (Av L i o RL) (.cells 56 [.bp id 0] :: .cells 59 [.int .i64 (t0.1:Int),.str t0.2.1,.int .i64 (t0.2.2:Int)] :: RBX [] :: J))=some (.pan (Cr t c),(BX bx id (Av L i' o' RL) (.cells 56 [.bp id 0] :: .cells 59 [.int .i64 (t0.1:Int),.str t0.2.1,.int .i64 (t0.2.2:Int)] :: RBX acc' :: J))):=by
   rw [E3 rfl];simp only [Aa,Ac,y1,yX] at Af |-;unfold Av at Af |-;rw [<- Am];rw [<- Am] at Af;simp only [S9,Ag,seval,PY,PZ,Aw,Al,SX,Ad];generalize hE:GZ _ _=z
   have hP:∃ e' acc',z=some (.pan (Cr t c),⟨e',(BX bx id (Av L i' o' RL) (.cells 56 [.bp id 0] :: .cells 59 [.int .i64 (t0.1:Int),.str t0.2.1,.int .i64 (t0.2.2:Int)] :: RBX acc' :: J))⟩):=by
    rw [<- hE];unfold Av;refine Af _ ?_ ?_ ?_ ?_
    · simp only [S7,Ag,seval]
    · simp only [S7,Ag,seval]
    · simp only [S7,Ag,seval]
    · simp only [S7,Ag,seval] <;> rfl
   obtain ⟨e',acc',he⟩:=hP;subst he;clear hE Af;unfold Av;simp only [S9,Ag,seval,PY,PZ,Aw,Al,SX,Ad];exact ⟨_,rfl⟩
  obtain ⟨acc',hx⟩:=hx;refine ⟨acc',?_⟩;refine P0 (by simp [Aq,PV.pure]) rfl hc (BH L _ _ hR) ?_ (Et _ _ _) hx;simp only [SU,SX,hd,bA,hJ,decide_true,yW,yY,zf]
 | ok l j=>
  rw [r] at Af;refine fun bx Ad hc=>?_;have Af:=Af bx Ad hc;have hd:∀ k,id < bx.length+k:=fun k=>by omega
  have hx:∃ u:Unit, Ae CC 38 [.bp id 0,.str wd,.fn F [] [.bp (bx.length+2) 0,.bp bx.length 0]] (BX bx id (Av L i o RL) (.cells 56 [.bp id 0] :: .cells 59 [.int .i64 (t0.1:Int),.str t0.2.1,.int .i64 (t0.2.2:Int)] :: RBX [] :: J))=some (.ret (.tup []),(BX bx id (Av L j o RL) (.cells 56 [.bp id 0] :: .cells 59 [.int .i64 (t0.1:Int),.str t0.2.1,.int .i64 (t0.2.2:Int)] :: RBX l :: J))):=by
   rw [E3 rfl];simp only [Aa,Ac,y1,yX] at Af |-;unfold Av at Af |-;rw [<- Am];rw [<- Am] at Af;simp only [S9,Ag,seval,PY,PZ,Aw,Al,SX,Ad];generalize hE:GZ _ _=z
   have hP:∃ e' ,z=some (.exit 0,⟨e',(BX bx id (Av L j o RL) (.cells 56 [.bp id 0] :: .cells 59 [.int .i64 (t0.1:Int),.str t0.2.1,.int .i64 (t0.2.2:Int)] :: RBX l :: J))⟩):=by
    rw [<- hE];unfold Av;refine Af _ ?_ ?_ ?_ ?_
    · simp only [S7,Ag,seval]
    · simp only [S7,Ag,seval]
    · simp only [S7,Ag,seval]
    · simp only [S7,Ag,seval] <;> rfl
   obtain ⟨e',he⟩:=hP;subst he;clear hE Af;unfold Av;simp only [S9,Ag,seval,PY,PZ,Aw,Al,SX,Ad];exact ⟨(),trivial⟩
  obtain ⟨_,hx⟩:=hx;skip;refine P0 (by simp [Aq,PV.pure]) rfl hc (BH L _ _ hR) ?_ (by simp [CR.under,PV.under,Au]) hx;simp only [SU,SX,hd,bA,hJ,decide_true,yW,yY,zf]
theorem KX:GY CC y' (y'.body.getD .skip)=true:=by kernel_rfl
theorem KY:Bk CC y' (y'.body.getD .skip)=false:=by kernel_rfl
theorem J9:CC.P.funcs[19]?=some y':=by kernel_rfl
theorem BT {x:List PV} {b:List PBox} (h:x.length.ble y'.ntmps=true):Ae CC 19 x b=CB CC y'.results.toList (Hg CC (y'.body.getD .skip) ⟨x,b⟩):=Ce (fn:=y') (c:=y'.body.getD .skip) rfl rfl J9 rfl KY KX (zg h)
noncomputable def IR:TypeInfo:=(zo.info? 52).getD default
theorem wN (bytes:Nat) (hb:IR.bytes=bytes) (st:St) (al:List (Nat×Loc)) (s x:Operand) (d:Option Tmp):EW CC st al s x 23 23 d=match DV CC st al 52 s,Di (opd CC st.env x) with
 | some (l,xs),some ys=>Sf bytes 15 52 st al l xs ys d
 | _,_=>none:=EZ (i:=IR) (by kernel_rfl) (by kernel_rfl) (by kernel_rfl) (z:=(IR.zero).getD default) (by kernel_rfl) (by kernel_rfl) (by rw [show IR.size=15 from by kernel_rfl];decide) hb (by kernel_rfl)
theorem cP:IR.bytes=208:=by kernel_rfl
theorem wO (nm:List UInt8) (pr:Int) (xs ys:List PV) (e:Tr):AW CC 23 1 [(0,.agg (Ct nm pr (.sl xs) (.sl ys) e))]=some (.osl 52 [.agg (Ct nm pr (.sl xs) (.sl ys) e)]):=by
 obtain ⟨k,n,m,s,v,q,kids⟩:=e;unfold Ct
 kernel_rfl
theorem ug:Cl CC (opsOf (Aa y' [1,0,1,0]))=false:=by kernel_rfl
theorem kG:Cc (opsOf (Aa y' [1,0,1,0]))=[[0,1,2,3],[1,0,2,3],[1,2,0,3]]:=by kernel_rfl
theorem nV {bx:List PBox} {id:Nat} {L:List Tk} {i o:Nat} {RL:PV} (hR:RL.pure=true) (Ad:id < bx.length) (hc:C5 bx) (hi:i < L.length) (e:List PV) (g1:getT e 1=.bp bx.length 0) :
 drawAll CC (Ae CC) (opsOf (Aa y' [1,0,1,0])) ⟨e,BX bx id (Av L i o RL) [.cells 56 [.bp id 0]]⟩=some (.pan (Cr (atT L i) 3),⟨[],BX bx id (Av L i o RL) [.cells 56 [.bp id 0]]⟩):=by
 have t0:=Ab Ad hc hR (AJ (id:=id) (o:=o) hR hi);have t1:=At Ad hc hR (Dk (id:=id) (i:=i) (o:=o) (L:=L) (RL:=RL) hR (tokAt L i).1 (tokAt L i).2.1 (tokAt L i).2.2 3);have hd:∀ k,id < bx.length+k:=fun k=>by omega
 refine AN.2 ⟨by rw [kG];simp,fun l hl=>?_⟩;rw [kG] at hl;unfold Av atT;rw [<- Ih];rw [<- Cu] at t0 t1;simp only [za,y7,or_false] at hl;rcases hl with rfl | rfl | rfl
 all_goals
  simp only [opsOf,Aa,Ac,y',yX,A',y3,y4,y2,y0,yZ];simp only [S9,AT,seval,PY,PZ,Aw,Al,t0,t1,g1,hd,SX,AR,Bm,Ad]
theorem pE:Cl CC (opsOf (Aa y' [1,1,1,1,1,1,1,1,1,1,1,1]))=false:=by kernel_rfl
theorem XV:Cc (opsOf (Aa y' [1,1,1,1,1,1,1,1,1,1,1,1]))=[[0,1,2,3,4,5,6,7,8,9,10],[0,1,2,3,5,4,6,7,8,9,10],[0,1,2,3,5,6,4,7,8,9,10],[0,1,2,5,3,4,6,7,8,9,10],[0,1,2,5,3,6,4,7,8,9,10],[0,1,2,5,6,3,4,7,8,9,10],[0,1,5,2,3,4,6,7,8,9,10],[0,1,5,2,3,6,4,7,8,9,10],[0,1,5,2,6,3,4,7,8,9,10],[0,1,5,6,2,3,4,7,8,9,10],[0,5,1,2,3,4,6,7,8,9,10],[0,5,1,2,3,6,4,7,8,9,10],[0,5,1,2,6,3,4,7,8,9,10],[0,5,1,6,2,3,4,7,8,9,10],[0,5,6,1,2,3,4,7,8,9,10],[1,0,2,3,4,5,6,7,8,9,10],[1,0,2,3,5,4,6,7,8,9,10],[1,0,2,3,5,6,4,7,8,9,10],[1,0,2,5,3,4,6,7,8,9,10],[1,0,2,5,3,6,4,7,8,9,10],[1,0,2,5,6,3,4,7,8,9,10],[1,0,5,2,3,4,6,7,8,9,10],[1,0,5,2,3,6,4,7,8,9,10],[1,0,5,2,6,3,4,7,8,9,10],[1,0,5,6,2,3,4,7,8,9,10],[1,2,0,3,4,5,6,7,8,9,10],[1,2,0,3,5,4,6,7,8,9,10],[1,2,0,3,5,6,4,7,8,9,10],[1,2,0,5,3,4,6,7,8,9,10],[1,2,0,5,3,6,4,7,8,9,10],[1,2,0,5,6,3,4,7,8,9,10],[1,2,3,0,4,5,6,7,8,9,10],[1,2,3,0,5,4,6,7,8,9,10],[1,2,3,0,5,6,4,7,8,9,10],[1,2,3,4,0,5,6,7,8,9,10],[1,2,3,4,5,0,6,7,8,9,10],[1,2,3,4,5,6,0,7,8,9,10],[1,2,3,4,5,6,7,0,8,9,10],[1,2,3,5,0,4,6,7,8,9,10],[1,2,3,5,0,6,4,7,8,9,10],[1,2,3,5,4,0,6,7,8,9,10],[1,2,3,5,4,6,0,7,8,9,10],[1,2,3,5,4,6,7,0,8,9,10],[1,2,3,5,6,0,4,7,8,9,10],[1,2,3,5,6,4,0,7,8,9,10],[1,2,3,5,6,4,7,0,8,9,10],[1,2,5,0,3,4,6,7,8,9,10],[1,2,5,0,3,6,4,7,8,9,10],[1,2,5,0,6,3,4,7,8,9,10],[1,2,5,3,0,4,6,7,8,9,10],[1,2,5,3,0,6,4,7,8,9,10],[1,2,5,3,4,0,6,7,8,9,10],[1,2,5,3,4,6,0,7,8,9,10],[1,2,5,3,4,6,7,0,8,9,10],[1,2,5,3,6,0,4,7,8,9,10],[1,2,5,3,6,4,0,7,8,9,10],[1,2,5,3,6,4,7,0,8,9,10],[1,2,5,6,0,3,4,7,8,9,10],[1,2,5,6,3,0,4,7,8,9,10],[1,2,5,6,3,4,0,7,8,9,10],[1,2,5,6,3,4,7,0,8,9,10],[1,5,0,2,3,4,6,7,8,9,10],[1,5,0,2,3,6,4,7,8,9,10],[1,5,0,2,6,3,4,7,8,9,10],[1,5,0,6,2,3,4,7,8,9,10],[1,5,2,0,3,4,6,7,8,9,10],[1,5,2,0,3,6,4,7,8,9,10],[1,5,2,0,6,3,4,7,8,9,10],[1,5,2,3,0,4,6,7,8,9,10],[1,5,2,3,0,6,4,7,8,9,10],[1,5,2,3,4,0,6,7,8,9,10],[1,5,2,3,4,6,0,7,8,9,10],[1,5,2,3,4,6,7,0,8,9,10],[1,5,2,3,6,0,4,7,8,9,10],[1,5,2,3,6,4,0,7,8,9,10],[1,5,2,3,6,4,7,0,8,9,10],[1,5,2,6,0,3,4,7,8,9,10],[1,5,2,6,3,0,4,7,8,9,10],[1,5,2,6,3,4,0,7,8,9,10],[1,5,2,6,3,4,7,0,8,9,10],[1,5,6,0,2,3,4,7,8,9,10],[1,5,6,2,0,3,4,7,8,9,10],[1,5,6,2,3,0,4,7,8,9,10],[1,5,6,2,3,4,0,7,8,9,10],[1,5,6,2,3,4,7,0,8,9,10],[5,0,1,2,3,4,6,7,8,9,10],[5,0,1,2,3,6,4,7,8,9,10],[5,0,1,2,6,3,4,7,8,9,10],[5,0,1,6,2,3,4,7,8,9,10],[5,0,6,1,2,3,4,7,8,9,10],[5,1,0,2,3,4,6,7,8,9,10],[5,1,0,2,3,6,4,7,8,9,10],[5,1,0,2,6,3,4,7,8,9,10],[5,1,0,6,2,3,4,7,8,9,10],[5,1,2,0,3,4,6,7,8,9,10],[5,1,2,0,3,6,4,7,8,9,10],[5,1,2,0,6,3,4,7,8,9,10],[5,1,2,3,0,4,6,7,8,9,10],[5,1,2,3,0,6,4,7,8,9,10],[5,1,2,3,4,0,6,7,8,9,10],[5,1,2,3,4,6,0,7,8,9,10],[5,1,2,3,4,6,7,0,8,9,10],[5,1,2,3,6,0,4,7,8,9,10],[5,1,2,3,6,4,0,7,8,9,10],[5,1,2,3,6,4,7,0,8,9,10],[5,1,2,6,0,3,4,7,8,9,10],[5,1,2,6,3,0,4,7,8,9,10],[5,1,2,6,3,4,0,7,8,9,10],[5,1,2,6,3,4,7,0,8,9,10],[5,1,6,0,2,3,4,7,8,9,10],[5,1,6,2,0,3,4,7,8,9,10],[5,1,6,2,3,0,4,7,8,9,10],[5,1,6,2,3,4,0,7,8,9,10],[5,1,6,2,3,4,7,0,8,9,10],[5,6,0,1,2,3,4,7,8,9,10],[5,6,1,0,2,3,4,7,8,9,10],[5,6,1,2,0,3,4,7,8,9,10],[5,6,1,2,3,0,4,7,8,9,10],[5,6,1,2,3,4,0,7,8,9,10],[5,6,1,2,3,4,7,0,8,9,10]]:=by kernel_rfl
theorem Z6 {bx:List PBox} {id:Nat} {L:List Tk} {i o:Nat} (Ad:id < bx.length) (hc:C5 bx) (nm:List UInt8) (pr:Int) (ons dss:List PV) (et:Tr) (t0:Tk) (J:List PBox)  (e:List PV) (g1:getT e 1=.bp bx.length 0) (g3:getT e 3=.bp (bx.length+2) 0) :
 drawAll CC (Ae CC) (opsOf (Aa y' [1,1,1,1,1,1,1,1,1,1,1,1])) ⟨e,BX bx id (Av L i o .nils) (.cells 56 [.bp id 0] :: .cells 59 [.int .i64 (t0.1:Int),.str t0.2.1,.int .i64 (t0.2.2:Int)] :: .cells 52 (Ct nm pr (.osl 46 ons) (.osl 49 dss) et) :: J)⟩=some (.normal,⟨(setT (setT (setT (setT (setT (setT (setT (setT (setT (setT (setT e 68 (.bp id 0)) 69 (.bp id 0)) 70 (.bp id 0)) 71 (.bp id 3)) 72 (.nils)) 73 (.agg (Ct nm pr (.sl ons) (.sl dss) et))) 74 (.osl 52 [.agg (Ct nm pr (.sl ons) (.sl dss) et)])) 75 ((.osl 52 [.agg (Ct nm pr (.sl ons) (.sl dss) et)]))) 76 (.bp id 0)) 77 (.bp id 3)) 75 (.sl [.agg (Ct nm pr (.sl ons) (.sl dss) et)])),BX bx id (Av L i o (.osl 52 [.agg (Ct nm pr (.sl ons) (.sl dss) et)])) (.cells 56 [.bp id 0] :: .cells 59 [.int .i64 (t0.1:Int),.str t0.2.1,.int .i64 (t0.2.2:Int)] :: .cells 52 (Ct nm pr (.osl 46 ons) (.osl 49 dss) et) :: J)⟩):=by
 have hb:=wN _ cP;have FB:=wO nm pr ons dss et;have Jd:=fun st al l d=>D7 (bytes:=208) (size:=15) (e:=52) (st:=st) (al:=al) (l:=l) (d:=d) (xs:=[]) (ys:=[.agg (Ct nm pr (.sl ons) (.sl dss) et)]) (by simp only [yW,yY];omega) (by decide) (by obtain ⟨k,n,m,s,v,q,kids⟩:=et;rfl);obtain ⟨k,n,m,s,v,q,kids⟩:=et;refine AN.2 ⟨by rw [XV];simp,fun l hl=>?_⟩;rw [XV] at hl;unfold Ct Av at *;rw [<- Ih];simp only [za,y7,or_false] at hl;rcases hl with rfl | rfl | rfl | rfl | rfl | rfl | rfl | rfl | rfl | rfl | rfl | rfl | rfl | rfl | rfl | rfl | rfl | rfl | rfl | rfl | rfl | rfl | rfl | rfl | rfl | rfl | rfl | rfl | rfl | rfl | rfl | rfl | rfl | rfl | rfl | rfl | rfl | rfl | rfl | rfl | rfl | rfl | rfl | rfl | rfl | rfl | rfl | rfl | rfl | rfl | rfl | rfl | rfl | rfl | rfl | rfl | rfl | rfl | rfl | rfl | rfl | rfl | rfl | rfl | rfl | rfl | rfl | rfl | rfl | rfl | rfl | rfl | rfl | rfl | rfl | rfl | rfl | rfl | rfl | rfl | rfl | rfl | rfl | rfl | rfl | rfl | rfl | rfl | rfl | rfl | rfl | rfl | rfl | rfl | rfl | rfl | rfl | rfl | rfl | rfl | rfl | rfl | rfl | rfl | rfl | rfl | rfl | rfl | rfl | rfl | rfl | rfl | rfl | rfl | rfl | rfl | rfl | rfl | rfl | rfl
 all_goals
  simp only [opsOf,Aa,Ac,y',yX,A',y3,y4,y2,y0,yZ];simp only [S9,AT,seval,PY,PZ,Aw,Al,hb,FB,Jd,g1,g3,C0,SX,AR,Bm,y5,y6,Ad]
  repeat first | rw [Ar _ 75 68 _ _ (by decide)] | rw [Ar _ 74 68 _ _ (by decide)] | rw [Ar _ 73 68 _ _ (by decide)] | rw [Ar _ 72 68 _ _ (by decide)] | rw [Ar _ 71 68 _ _ (by decide)] | rw [Ar _ 70 68 _ _ (by decide)] | rw [Ar _ 69 68 _ _ (by decide)] | rw [Ar _ 74 69 _ _ (by decide)] | rw [Ar _ 73 69 _ _ (by decide)] | rw [Ar _ 74 70 _ _ (by decide)] | rw [Ar _ 73 70 _ _ (by decide)] | rw [Ar _ 74 71 _ _ (by decide)] | rw [Ar _ 73 71 _ _ (by decide)] | rw [Ar _ 74 72 _ _ (by decide)] | rw [Ar _ 73 72 _ _ (by decide)]
  try rfl
theorem XW {bx:List PBox} {id:Nat} {L:List Tk} {i o:Nat} (Ad:id < bx.length) (hc:C5 bx) (nm:List UInt8) (pr:Int) (ons dss:List PV) (et:Tr) (t0:Tk) (J:List PBox) (x0:PV) (xs:List PV) (s7:xs.length<=100) (e:List PV) (g1:getT e 1=.bp bx.length 0) (g3:getT e 3=.bp (bx.length+2) 0) :
 drawAll CC (Ae CC) (opsOf (Aa y' [1,1,1,1,1,1,1,1,1,1,1,1])) ⟨e,BX bx id (Av L i o (.osl 52 (x0 :: xs))) (.cells 56 [.bp id 0] :: .cells 59 [.int .i64 (t0.1:Int),.str t0.2.1,.int .i64 (t0.2.2:Int)] :: .cells 52 (Ct nm pr (.osl 46 ons) (.osl 49 dss) et) :: J)⟩=some (.normal,⟨(setT (setT (setT (setT (setT (setT (setT (setT (setT (setT (setT e 68 (.bp id 0)) 69 (.bp id 0)) 70 (.bp id 0)) 71 (.bp id 3)) 72 (.sl (x0 :: xs))) 73 (.agg (Ct nm pr (.sl ons) (.sl dss) et))) 74 (.osl 52 [.agg (Ct nm pr (.sl ons) (.sl dss) et)])) 75 ((.osl 52 (x0 :: (xs++[.agg (Ct nm pr (.sl ons) (.sl dss) et)]))))) 76 (.bp id 0)) 77 (.bp id 3)) 75 (.sl (x0 :: (xs++[.agg (Ct nm pr (.sl ons) (.sl dss) et)])))),BX bx id (Av L i o (.osl 52 (x0 :: (xs++[.agg (Ct nm pr (.sl ons) (.sl dss) et)])))) (.cells 56 [.bp id 0] :: .cells 59 [.int .i64 (t0.1:Int),.str t0.2.1,.int .i64 (t0.2.2:Int)] :: .cells 52 (Ct nm pr (.osl 46 ons) (.osl 49 dss) et) :: J)⟩):=by
 have hb:=wN _ cP;have FB:=wO nm pr ons dss et;have Jd:=fun st al l d=>D7 (bytes:=208) (size:=15) (e:=52) (st:=st) (al:=al) (l:=l) (d:=d) (xs:=x0 :: xs) (ys:=[.agg (Ct nm pr (.sl ons) (.sl dss) et)]) (by simp only [yW,yY];omega) (by decide) (by obtain ⟨k,n,m,s,v,q,kids⟩:=et;rfl);obtain ⟨k,n,m,s,v,q,kids⟩:=et;refine AN.2 ⟨by rw [XV];simp,fun l hl=>?_⟩;rw [XV] at hl;unfold Ct Av at *;rw [<- Ih];simp only [za,y7,or_false] at hl;rcases hl with rfl | rfl | rfl | rfl | rfl | rfl | rfl | rfl | rfl | rfl | rfl | rfl | rfl | rfl | rfl | rfl | rfl | rfl | rfl | rfl | rfl | rfl | rfl | rfl | rfl | rfl | rfl | rfl | rfl | rfl | rfl | rfl | rfl | rfl | rfl | rfl | rfl | rfl | rfl | rfl | rfl | rfl | rfl | rfl | rfl | rfl | rfl | rfl | rfl | rfl | rfl | rfl | rfl | rfl | rfl | rfl | rfl | rfl | rfl | rfl | rfl | rfl | rfl | rfl | rfl | rfl | rfl | rfl | rfl | rfl | rfl | rfl | rfl | rfl | rfl | rfl | rfl | rfl | rfl | rfl | rfl | rfl | rfl | rfl | rfl | rfl | rfl | rfl | rfl | rfl | rfl | rfl | rfl | rfl | rfl | rfl | rfl | rfl | rfl | rfl | rfl | rfl | rfl | rfl | rfl | rfl | rfl | rfl | rfl | rfl | rfl | rfl | rfl | rfl | rfl | rfl | rfl | rfl | rfl | rfl
 all_goals
  simp only [opsOf,Aa,Ac,y',yX,A',y3,y4,y2,y0,yZ];simp only [S9,AT,seval,PY,PZ,Aw,Al,hb,FB,Jd,g1,g3,C0,SX,AR,Bm,y5,y6,Ad]
  repeat first | rw [Ar _ 75 68 _ _ (by decide)] | rw [Ar _ 74 68 _ _ (by decide)] | rw [Ar _ 73 68 _ _ (by decide)] | rw [Ar _ 72 68 _ _ (by decide)] | rw [Ar _ 71 68 _ _ (by decide)] | rw [Ar _ 70 68 _ _ (by decide)] | rw [Ar _ 69 68 _ _ (by decide)] | rw [Ar _ 74 69 _ _ (by decide)] | rw [Ar _ 73 69 _ _ (by decide)] | rw [Ar _ 74 70 _ _ (by decide)] | rw [Ar _ 73 70 _ _ (by decide)] | rw [Ar _ 74 71 _ _ (by decide)] | rw [Ar _ 73 71 _ _ (by decide)] | rw [Ar _ 74 72 _ _ (by decide)] | rw [Ar _ 73 72 _ _ (by decide)]
  try rfl
end Go.HH
