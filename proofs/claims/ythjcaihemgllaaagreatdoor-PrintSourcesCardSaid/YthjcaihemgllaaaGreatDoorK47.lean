/-
  What the law needs, packed: E18 E19 D5 LA LB LE LF LG LH LI LK.
-/
import Derived.Test.YthjcaihemgllaaaGreatDoorK46
open List renaming length_cons->Aau,length_nil->Aav,length_append->Aax,set_cons_succ->Aay,length_set->Aaz,set_cons_zero->Ab0,getElem?_concat_length->Ab2,length_map->Ab7,append_assoc->Ab8,append_nil->Abb,cons_append->Abd,nil_append->Abe,getElem?_append_right->Abf,drop_eq_getElem_cons->Abg,getElem?_eq_getElem->Abi,getElem_mem->Abj,drop_eq_nil_of_le->Abl,set_append_right->Abm,getElem?_map->Abp,flatMap_cons->Abq,drop_zero->Abs,getElem?_append_left->Abt,all_cons->Abv,getElem?_cons_succ->Abw,length_singleton->Aby,getD_cons_zero->Abz,getD_cons_succ->Ac0,flatMap_nil->Ac1,map_append->Ac2,all_append->Ac3,mem_cons->Ac6
open Option renaming getD->Aaw
open Go.Proofs.Tryz renaming f30->Ab1,f57->Ab3,f39->Ab5,f19->Ab6,f84->Ab9,f86->Abc,f40->Abn,f55->Ac4,f26->Ac5
open Nat renaming le_of_ble_eq_true->Ab4,le_refl->Abh,sub_self->Abr
open Bool renaming and_assoc->Aba,and_self->Abo
open Go.Lib renaming itoa->Abk
open BEq renaming comm->Abu
open Go.Code renaming loop->Abx
namespace Go.HH
open Go Go.Proofs
set_option maxRecDepth 100000
set_option maxHeartbeats 4000000
set_option linter.unusedSimpArgs false
set_option linter.unusedVariables false
theorem OP:Be CC Ab1 (Ab1.body.getD .skip)=true:=by kernel_rfl
theorem NJ:CC.P.funcs[30]?=some Ab1:=by kernel_rfl
theorem Mo (hS:∀ t:Tg,∀ bx,Ai CC (Ad CC) 57 [BE t] bx=some (.ret (.bool (!(lB t))),bx)) (t:Tg) (hp:GO t=true):∃ bx,Ad CC 30 [BE t] []=some (.ret (.int .i64 (VC t)),bx):=by
 have hl:=SK hp;have osp:=hS t;clear hS;unfold VC;obtain ⟨k,key,GM,nm,n,m⟩:=t;obtain ⟨d,c,a⟩:=key;obtain ⟨d',c',a'⟩:=GM;obtain ⟨l1,l2,l3,l4,l5⟩:=hl;simp only at l1 l2 l3 l4 l5;have on1:=FA d c a (by omega) (by omega);have on2:=FA d' c' a' (by omega) (by omega);have v5:=Ci nm (by omega);have hn:ED .neq nm []=some (.bool (!(nm == []))):=rfl;obtain ⟨ne,Dx⟩:∃ b,b=(nm == []):=⟨_,rfl⟩;have mP:nm=[]↔ne=true:=by rw [Dx];simp
 rw [<- Dx] at hn;unfold BE at osp |-;simp only at osp |-;generalize lB ⟨k,(d,c,a),(d',c',a'),nm,n,m⟩=ts at *;rw [Ah (fn:=Ab1) (c:=Ab1.body.getD .skip) rfl rfl NJ rfl OP (Ab4 rfl)];generalize Xf d c a=q1 at *;generalize Xf d' c' a'=q2 at *;generalize B8 nm=p5 at *;by_cases c1:k < 1
 · rw [if_pos (by omega)]
   rw [<- Al];rw [<- AI] at osp on1 on2 v5;simp only [Aa,Ac,Ab1,Aaw];simp only [S8,Af,SG,seval,UT,SC,osp,on1,on2,v5,hn,c1];exact ⟨_,rfl⟩
 by_cases c2:k > 6
 · rw [if_pos (by omega)]
   rw [<- Al];rw [<- AI] at osp on1 on2 v5;simp only [Aa,Ac,Ab1,Aaw];simp only [S8,Af,SG,seval,UT,SC,osp,on1,on2,v5,hn,c1,c2];exact ⟨_,rfl⟩
 cases ts with
 | true=>
  rw [if_neg (by omega),if_pos rfl];rw [<- Al];rw [<- AI] at osp on1 on2 v5;simp only [Aa,Ac,Ab1,Aaw];simp only [S8,Af,SG,seval,UT,SC,osp,on1,on2,v5,hn,c1,c2];exact ⟨_,rfl⟩
 | false=>
  by_cases k1:k=1
  · subst k1
    rw [if_neg (by omega),if_neg (by simp),if_pos rfl];rw [<- Al];rw [<- AI] at osp on1 on2 v5;simp only [Aa,Ac,Ab1,Aaw];simp only [S8,Af,SG,seval,UT,SC,osp,on1,on2,v5,hn,c1,c2];exact ⟨_,rfl⟩
  by_cases k2:k=2
  · subst k2
    rw [if_neg (by omega),if_neg (by simp),if_neg (by omega),if_pos rfl];rw [<- Al];rw [<- AI] at osp on1 on2 v5;simp only [Aa,Ac,Ab1,Aaw];simp only [S8,Af,SG,seval,UT,SC,osp,on1,on2,v5,hn,c1,c2];exact ⟨_,rfl⟩
  by_cases k3:k=3
  · subst k3
    by_cases e0:n < 0
    · rw [if_neg (by omega),if_neg (by simp),if_neg (by omega),if_neg (by omega),if_pos rfl,if_neg (by omega)]
      rw [<- Al];rw [<- AI] at osp on1 on2 v5;simp only [Aa,Ac,Ab1,Aaw];simp only [S8,Af,SG,seval,UT,SC,osp,on1,on2,v5,hn,c1,c2,e0];exact ⟨_,rfl⟩
    by_cases e1:n ≥ 1440
    · rw [if_neg (by omega),if_neg (by simp),if_neg (by omega),if_neg (by omega),if_pos rfl,if_neg (by omega)]
      rw [<- Al];rw [<- AI] at osp on1 on2 v5;simp only [Aa,Ac,Ab1,Aaw];simp only [S8,Af,SG,seval,UT,SC,osp,on1,on2,v5,hn,c1,c2,e0,e1];exact ⟨_,rfl⟩
    by_cases e2:m < 1
    · rw [if_neg (by omega),if_neg (by simp),if_neg (by omega),if_neg (by omega),if_pos rfl,if_neg (by omega)]
      rw [<- Al];rw [<- AI] at osp on1 on2 v5;simp only [Aa,Ac,Ab1,Aaw];simp only [S8,Af,SG,seval,UT,SC,osp,on1,on2,v5,hn,c1,c2,e0,e1,e2];exact ⟨_,rfl⟩
    by_cases e3:m > 127
    · rw [if_neg (by omega),if_neg (by simp),if_neg (by omega),if_neg (by omega),if_pos rfl,if_neg (by omega)]
      rw [<- Al];rw [<- AI] at osp on1 on2 v5;simp only [Aa,Ac,Ab1,Aaw];simp only [S8,Af,SG,seval,UT,SC,osp,on1,on2,v5,hn,c1,c2,e0,e1,e2,e3];exact ⟨_,rfl⟩
    rw [if_neg (by omega),if_neg (by simp),if_neg (by omega),if_neg (by omega),if_pos rfl,if_pos (by omega)];rw [<- Al];rw [<- AI] at osp on1 on2 v5;simp only [Aa,Ac,Ab1,Aaw];simp only [S8,Af,SG,seval,UT,SC,osp,on1,on2,v5,hn,c1,c2,e0,e1,e2,e3];exact ⟨_,rfl⟩
  by_cases k4:k=4
  · subst k4
    cases ne with
    | true=>
     rw [if_neg (by omega),if_neg (by simp),if_neg (by omega),if_neg (by omega),if_neg (by omega),if_pos rfl,if_pos (.inl (mP.2 rfl))];rw [<- Al];rw [<- AI] at osp on1 on2 v5;simp only [Aa,Ac,Ab1,Aaw];simp only [S8,Af,SG,seval,UT,SC,osp,on1,on2,v5,hn,c1,c2];exact ⟨_,rfl⟩
    | false=>
     cases p5 with
     | true=>
      rw [if_neg (by omega),if_neg (by simp),if_neg (by omega),if_neg (by omega),if_neg (by omega),if_pos rfl,if_pos (.inr rfl)];rw [<- Al];rw [<- AI] at osp on1 on2 v5;simp only [Aa,Ac,Ab1,Aaw];simp only [S8,Af,SG,seval,UT,SC,osp,on1,on2,v5,hn,c1,c2];exact ⟨_,rfl⟩
     | false=>
      rw [if_neg (by omega),if_neg (by simp),if_neg (by omega),if_neg (by omega),if_neg (by omega),if_pos rfl,if_neg (by rw [mP];simp)];rw [<- Al];rw [<- AI] at osp on1 on2 v5;simp only [Aa,Ac,Ab1,Aaw];simp only [S8,Af,SG,seval,UT,SC,osp,on1,on2,v5,hn,c1,c2];exact ⟨_,rfl⟩
  by_cases k6:k=6
  · subst k6
    by_cases e0:n < 0
    · rw [if_neg (by omega),if_neg (by simp),if_neg (by omega),if_neg (by omega),if_neg (by omega),if_neg (by omega),if_pos rfl,if_neg (by omega)]
      rw [<- Al];rw [<- AI] at osp on1 on2 v5;simp only [Aa,Ac,Ab1,Aaw];simp only [S8,Af,SG,seval,UT,SC,osp,on1,on2,v5,hn,c1,c2,e0];exact ⟨_,rfl⟩
    by_cases e1:n > 1099511627776
    · rw [if_neg (by omega),if_neg (by simp),if_neg (by omega),if_neg (by omega),if_neg (by omega),if_neg (by omega),if_pos rfl,if_neg (by omega)]
      rw [<- Al];rw [<- AI] at osp on1 on2 v5;simp only [Aa,Ac,Ab1,Aaw];simp only [S8,Af,SG,seval,UT,SC,osp,on1,on2,v5,hn,c1,c2,e0,e1];exact ⟨_,rfl⟩
    rw [if_neg (by omega),if_neg (by simp),if_neg (by omega),if_neg (by omega),if_neg (by omega),if_neg (by omega),if_pos rfl,if_pos (by omega)];rw [<- Al];rw [<- AI] at osp on1 on2 v5;simp only [Aa,Ac,Ab1,Aaw];simp only [S8,Af,SG,seval,UT,SC,osp,on1,on2,v5,hn,c1,c2,e0,e1];exact ⟨_,rfl⟩
  have k5:k=5:=by omega
  subst k5;rw [if_neg (by omega),if_neg (by simp),if_neg (by omega),if_neg (by omega),if_neg (by omega),if_neg (by omega),if_neg (by omega)];rw [<- Al];rw [<- AI] at osp on1 on2 v5;simp only [Aa,Ac,Ab1,Aaw];simp only [S8,Af,SG,seval,UT,SC,osp,on1,on2,v5,hn,c1,c2];exact ⟨_,rfl⟩
theorem gO:JG CC Ab3 (Ab3.body.getD .skip)=true:=by kernel_rfl
theorem gP:Be CC Ab3 (Ab3.body.getD .skip)=false:=by kernel_rfl
theorem nP1 (st:St):DL (some (.normal,st))=some (.normal,st):=rfl
theorem lE:CM CC (opsOf (Aa Ab3 [1,1,0,1,0,1,1,1,1,1,0]))=false:=by kernel_rfl
theorem gQ:CC.P.funcs[57]?=some Ab3:=by kernel_rfl
theorem Cd:∀ (e:List PV) (i j:Nat) (a b:PV),i≠j->setT (setT e i a) j b=setT (setT e j b) i a
 | [],0,0,_,_,h=>absurd rfl h
 | [],0,j+1,a,b,_=>by simp [setT]
 | [],i+1,0,a,b,_=>by simp [setT]
 | [],i+1,j+1,a,b,h=>by
  have:=Cd [] i j a b (by omega);simp [setT,this]
 | _ :: _,0,0,_,_,h=>absurd rfl h
 | _ :: _,0,j+1,_,_,_=>by simp [setT]
 | _ :: _,i+1,0,_,_,_=>by simp [setT]
 | x :: r,i+1,j+1,a,b,h=>by
  have:=Cd r i j a b (by omega);simp [setT,this]
theorem rD:BO (opsOf (Aa Ab3 [1,1,0,1,0,1,1,1,1,1,0]))=[[0,1,2,3,4,5,6,7],[0,1,2,4,3,5,6,7],[0,1,2,4,5,3,6,7],[0,1,4,2,3,5,6,7],[0,1,4,2,5,3,6,7],[0,1,4,5,2,3,6,7],[0,2,1,3,4,5,6,7],[0,2,1,4,3,5,6,7],[0,2,1,4,5,3,6,7],[0,2,3,1,4,5,6,7],[2,0,1,3,4,5,6,7],[2,0,1,4,3,5,6,7],[2,0,1,4,5,3,6,7],[2,0,3,1,4,5,6,7],[2,3,0,1,4,5,6,7]]:=by kernel_rfl
theorem pD (k n m:Int) (d:Int) (c a:List UInt8) (d':Int) (c' a' nm:List UInt8) (e:List PV) (h1:getT e 1=.bp 0 0) (h3:getT e 3=.bp 1 0) :
 drawAll CC (Ad CC) (opsOf (Aa Ab3 [1,1,0,1,0,1,1,1,1,1,0])) ⟨e,[.cells 58 [.int .i64 k,.int .i64 d,.str c,.str a,.int .i64 d',.str c',.str a',.str nm,.int .i64 n,.int .i64 m],.cells 58 [.int .i64 k,.int .i64 0,.str [],.str [],.int .i64 0,.str [],.str [],.str [],.int .i64 0,.int .i64 0]]⟩ =
  some (.normal,⟨setT (setT (setT (setT (setT (setT e 21 (.bp 0 8)) 22 (.int .i64 n)) 23 (.bp 0 9)) 24 (.int .i64 m)) 25 (.bp 1 8)) 26 (.bp 1 9),[.cells 58 [.int .i64 k,.int .i64 d,.str c,.str a,.int .i64 d',.str c',.str a',.str nm,.int .i64 n,.int .i64 m],.cells 58 [.int .i64 k,.int .i64 0,.str [],.str [],.int .i64 0,.str [],.str [],.str [],.int .i64 n,.int .i64 m]]⟩):=by
 refine AV.2 ⟨by rw [rD];simp,fun l hl=>?_⟩;rw [rD] at hl;rw [<- My];simp only [Ac6,List.not_mem_nil,or_false] at hl;rcases hl with rfl | rfl | rfl | rfl | rfl | rfl | rfl | rfl | rfl | rfl | rfl | rfl | rfl | rfl | rfl
 all_goals
  simp only [opsOf,Aa,Ac,Ab3,Aaw,AR,List.filterMap_cons,List.filterMap_nil,List.getElem?_toArray,Abw,List.getElem?_cons_zero];simp only [S9,A6,seval,Ab0,Aay,h1,h3,nP1]
  repeat (first | rw [Cd _ 26 25 _ _ (by decide)] | rw [Cd _ 26 24 _ _ (by decide)] | rw [Cd _ 26 23 _ _ (by decide)] | rw [Cd _ 26 22 _ _ (by decide)] | rw [Cd _ 26 21 _ _ (by decide)] | rw [Cd _ 25 24 _ _ (by decide)] | rw [Cd _ 25 23 _ _ (by decide)] | rw [Cd _ 25 22 _ _ (by decide)] | rw [Cd _ 25 21 _ _ (by decide)] | rw [Cd _ 24 23 _ _ (by decide)] | rw [Cd _ 24 22 _ _ (by decide)] | rw [Cd _ 24 21 _ _ (by decide)] | rw [Cd _ 23 22 _ _ (by decide)] | rw [Cd _ 23 21 _ _ (by decide)] | rw [Cd _ 22 21 _ _ (by decide)])
def th (x y:Option Bool):Option Bool:=match x with
 | some true=>y
 | o=>o
theorem gR (x y:Bool):Kt x (some y)=some (x && y):=by cases x <;> rfl
theorem gS (x y:Bool):th (some x) (some y)=some (x && y):=by cases x <;> rfl
theorem gT (k k2 n n2 m m2 d d2 e e2:Int) (c a f g nm c2 a2 f2 g2 nm2:List UInt8) :
 Mx CC 100 58 (.agg [.int .i64 k,.int .i64 d,.str c,.str a,.int .i64 e,.str f,.str g,.str nm,.int .i64 n,.int .i64 m]) (.agg [.int .i64 k2,.int .i64 d2,.str c2,.str a2,.int .i64 e2,.str f2,.str g2,.str nm2,.int .i64 n2,.int .i64 m2]) =
  some ((k == k2) && (Fj (d,c,a) (d2,c2,a2) && (Fj (e,f,g) (e2,f2,g2) && ((nm == nm2) && ((n == n2) && (m == m2)))))):=by
 have h:Mx CC 100 58 (.agg [.int .i64 k,.int .i64 d,.str c,.str a,.int .i64 e,.str f,.str g,.str nm,.int .i64 n,.int .i64 m]) (.agg [.int .i64 k2,.int .i64 d2,.str c2,.str a2,.int .i64 e2,.str f2,.str g2,.str nm2,.int .i64 n2,.int .i64 m2]) =
  Kt (k == k2) (th (Kt (d == d2) (Kt (c == c2) (Kt (a == a2) (some true)))) (th (Kt (e == e2) (Kt (f == f2) (Kt (g == g2) (some true)))) (Kt (nm == nm2) (Kt (n == n2) (Kt (m == m2) (some true)))))):=by kernel_rfl
 rw [h];simp only [gR,gS,Bool.and_true,Fj,Aba]
theorem gU:CC.P.eqGuardType CC.P.depth 58=false:=by kernel_rfl
theorem Lm (k:Int):A' CC 58 [(0,.int .i64 k)]=some (.agg [.int .i64 k,.int .i64 0,.str [],.str [],.int .i64 0,.str [],.str [],.str [],.int .i64 0,.int .i64 0]):=by kernel_rfl
theorem IV (v:Ky):Fj v v=true:=by simp [Fj]
theorem VD (v w:Ky):Fj v w=Fj w v:=by
 unfold Fj;rw [Abu (a:=v.1),Abu (a:=v.2.1),Abu (a:=v.2.2)]
def spR (k:Int) (key ev:Ky) (nm:List UInt8) (n m:Int) (key1 ev1:Ky) (nm1:List UInt8) (n1 m1:Int):Bool:=(k == k) && (Fj key1 key && (Fj ev1 ev && ((nm1 == nm) && ((n1 == n) && (m1 == m)))))
theorem tj (k:Int) (key ev:Ky) (nm:List UInt8) (n m:Int) :
 spR k key ev nm n m (if k=1 then key else (0,[],[])) (if k=2 then ev else (0,[],[])) (if k=4 then nm else []) (if k=3\/k=6 then n else 0) (if k=3 then m else 0)=!(lB ⟨k,key,ev,nm,n,m⟩):=by
 unfold spR lB tsB;simp only [beq_self_eq_true,Bool.true_and];rw [VD _ key,VD _ ev];have en:∀ x:Int,(0 == x)=!(x != 0):=fun x=>by simp [bne,Abu (a:=(0:Int))]
 have es:([] == nm)=(nm == []):=Abu;by_cases k1:k=1
 · subst k1;simp [IV,en,es,Aba]
 by_cases k2:k=2
 · subst k2;simp [IV,en,es,Aba]
 by_cases k3:k=3
 · subst k3;simp [IV,en,es,Aba]
 by_cases k4:k=4
 · subst k4;simp [IV,en,es,Aba]
 by_cases k6:k=6
 · subst k6;simp [IV,en,es,Aba]
 have p1:(k == 1)=false:=by simpa using k1
 have p2:(k == 2)=false:=by simpa using k2
 have p3:(k == 3)=false:=by simpa using k3
 have p4:(k == 4)=false:=by simpa using k4
 have p6:(k == 6)=false:=by simpa using k6
 simp [k1,k2,k3,k4,k6,p1,p2,p3,p4,p6,en,es,Aba]
theorem OQ (t:Tg):∃ bx,Ad CC 57 [BE t] []=some (.ret (.bool (!(lB t))),bx):=by
 obtain ⟨k,key,Tm,nm,n,m⟩:=t;rw [<- tj];obtain ⟨d,c,a⟩:=key;obtain ⟨d',c',a'⟩:=Tm;unfold BE spR;simp only;rw [CN (fn:=Ab3) (c:=Ab3.body.getD .skip) rfl rfl gQ rfl gP gO (Ab4 rfl)];have ER:=pD k n m d c a d' c' a' nm;simp only [<- A8 lE] at ER;by_cases k1:k=1
 · subst k1
   rw [<- Ch];simp only [Aa,Ac,Ab3,Aaw];simp only [S9,A6,seval,gT,gU,Lm,L1,Ab0,Aay];exact ⟨_,rfl⟩
 by_cases k2:k=2
 · subst k2
   rw [<- Ch];simp only [Aa,Ac,Ab3,Aaw];simp only [S9,A6,seval,gT,gU,Lm,L1,Ab0,Aay];exact ⟨_,rfl⟩
 by_cases k3:k=3
 · subst k3
   rw [<- Ch];rw [<- I3] at ER;simp only [opsOf,Aa,Ac,Ab3,Aaw] at ER |-;simp only [S9,A6,seval,gT,gU,Lm,L1,Ab0,Aay,ER];exact ⟨_,rfl⟩
 by_cases k4:k=4
 · subst k4
   rw [<- Ch];simp only [Aa,Ac,Ab3,Aaw];simp only [S9,A6,seval,gT,gU,Lm,L1,Ab0,Aay];exact ⟨_,rfl⟩
 by_cases k6:k=6
 · subst k6
   rw [<- Ch];simp only [Aa,Ac,Ab3,Aaw];simp only [S9,A6,seval,gT,gU,Lm,L1,Ab0,Aay];exact ⟨_,rfl⟩
 have p1:(k == 1)=false:=by simpa using k1
 have p2:(k == 2)=false:=by simpa using k2
 have p3:(k == 3)=false:=by simpa using k3
 have p4:(k == 4)=false:=by simpa using k4
 have p6:(k == 6)=false:=by simpa using k6
 rw [if_neg k1,if_neg k2,if_neg k4,if_neg (by omega),if_neg k3];rw [<- Ch];simp only [Aa,Ac,Ab3,Aaw];simp only [S9,A6,seval,gT,gU,Lm,L1,Ab0,Aay,p1,p2,p3,p4,p6];exact ⟨_,rfl⟩
theorem SP (t:Tg) (bx):Ai CC (Ad CC) 57 [BE t] bx=some (.ret (.bool (!(lB t))),bx):=by
 obtain ⟨b,h⟩:=OQ t;exact Ao rfl (by simp only [AK,K2,Bk,Abo]) h rfl
theorem OR (t:Tg) (hp:GO t=true) (bx):Ai CC (Ad CC) 30 [BE t] bx=some (.ret (.int .i64 (VC t)),bx):=by
 obtain ⟨b,h⟩:=Mo SP t hp;exact Ao rfl (by simp only [AK,K2,Bk,Abo]) h rfl
theorem OS (r:Rl) (hp:Ig r=true) (bx):Ai CC (Ad CC) 11 [Dw r] bx=some (.ret (.int .i64 (XJ r)),bx):=by
 obtain ⟨b,h⟩:=OO (fun t ht=>OR t ht) r hp;exact Ao rfl (by simp only [AK,IU,Bk,Abo]) h rfl
def To (t:Tg):List UInt8:=
 if t.k=1 then cat [99,104,97,110,103,101,32] (E3 t.key.1 t.key.2.1 t.key.2.2) else if t.k=2 then cat [101,118,101,110,116,32] (E3 t.ev.1 t.ev.2.1 t.ev.2.2) else
 if t.k=3 then (if t.m=127 then cat [116,105,109,101,32] (FL t.n.toNat) else cat (cat (cat [116,105,109,101,32] (FL t.n.toNat)) [32]) (Ql t.m.toNat)) else
 if t.k=4 then (if t.nm=[] then [109,111,100,101] else cat [109,111,100,101,32] t.nm) else if t.k=5 then [115,116,97,114,116] else cat [104,111,108,100,32] (Abk t.n)
def VE (s:Sp):List UInt8:=
 if s.k=1 then cat (cat (cat [115,101,116,32] (E3 s.key.1 s.key.2.1 s.key.2.2)) [32,61,32]) (EN (an s.ex) 0) else
 if s.k=2 then (if gB s.ex=true then cat [99,97,108,108,32] (E3 s.key.1 s.key.2.1 s.nm) else cat (cat (cat (cat [99,97,108,108,32] (E3 s.key.1 s.key.2.1 s.nm)) [40]) (EN (an s.ex) 0)) [41]) else
 if s.k=3 then cat [115,99,101,110,101,32] s.nm else if s.k=4 then cat [109,111,100,101,32] s.nm else cat [110,111,116,105,102,121,32] (BD s.nm)
def vO (r:Rl):List UInt8:=cat (cat (cat (cat [114,117,108,101,32] r.nm) [32,112,114,105,111,114,105,116,121,32]) (Abk r.pr)) [32,123,10]
def lF (t:Tg):List UInt8:=cat (cat [32,32,111,110,32] (To t)) [59,10]
def lG (t:Tr):List UInt8:=cat (cat [32,32,105,102,32] (EN (an t) 0)) [59,10]
def lH (s:Sp):List UInt8:=cat (cat [32,32,100,111,32] (VE s)) [59,10]
def SQ (t:Tr):Bool:=bA t 1 0 0 [] (1,1,[]) (0,[],[])
def VF (r:Rl):List UInt8:=vO r++r.on.flatMap lF++(if SQ r.ife=true then [] else lG r.ife)++r.dos.flatMap lH++[125,10]
theorem Xg {α:Type} {f:α->Int}:∀ {l:List α},ZZ f l=0->∀ x ∈ l,f x=0
 | [],_,x,hx=>by simp at hx
 | y :: r,h,x,hx=>by
  unfold ZZ at h;split at h
  · rename_i hh;exact absurd h hh
  · rename_i hh
    rcases Ac6.1 hx with rfl | hx
    · omega
    · exact Xg h x hx
theorem OT {r:Rl} (h:XJ r=0):B8 r.nm=true/\0<=r.pr/\r.pr<=100/\(∀ t ∈ r.on,VC t=0)/\Mz r.ife=0/\∀ s ∈ r.dos,Zf s=0:=by
 unfold XJ at h;split at h
 · omega
 rename_i h0;split at h
 · omega
 split at h
 · omega
 split at h
 · rename_i hh;exact absurd h hh
 rename_i h3;split at h
 · rename_i hh;exact absurd h hh
 rename_i h4;exact ⟨by simpa using h0,by omega,by omega,Xg (by omega),by omega,Xg h⟩
theorem SR:Be CC Ab9 (Ab9.body.getD .skip)=true:=by kernel_rfl
theorem Qt:CC.P.funcs[84]?=some Ab9:=by kernel_rfl
theorem Qu:Be CC Abc (Abc.body.getD .skip)=true:=by kernel_rfl
theorem OU:CC.P.funcs[86]?=some Abc:=by kernel_rfl
theorem Xh {n:Int} {a b:List UInt8} (h:Xf n a b=0):GY n:=by
 unfold Xf at h;split at h
 · omega
 · rename_i hd
   have hd:ZY n=true:=by simpa using hd
   unfold ZY at hd;have hd:=of_decide_eq_true hd;exact ⟨by omega,by omega⟩
theorem VG (s:List UInt8):(BD s).length<=4 * s.length+2:=by
 have:=Wr s;rw [EF];omega
theorem HQ {d:Int} {a b:List UInt8} (h:GY d):(E3 d a b).length<=23+a.length+b.length:=by
 have:=Dj h;unfold E3;simp only [AD,Aby];omega
theorem NK (n:Nat):(FL n).length=5:=rfl
theorem lI:∀ n:_root_.Fin 128,(Ql n.val).length<=100:=by decide +kernel
theorem dX {n:Nat} (h:n < 128):(Ql n).length<=100:=lI ⟨n,h⟩
theorem VH {t:Tg} (h:VC t=0):(1<=t.k/\t.k<=6)/\(t.k=1->GY t.key.1)/\(t.k=2->GY t.ev.1)/\(t.k=3->0<=t.n/\t.n < 1440/\1<=t.m/\t.m<=127)/\(t.k=6->GY t.n):=by
 unfold VC at h;split at h
 · omega
 split at h
 · omega
 refine ⟨by omega,fun k=>?_,fun k=>?_,fun k=>?_,fun k=>?_⟩
 · rw [if_pos k] at h
   exact Xh h
 · rw [if_neg (by omega),if_pos k] at h
   exact Xh h
 · rw [if_neg (by omega),if_neg (by omega),if_pos k] at h
   split at h <;> omega
 · rw [if_neg (by omega),if_neg (by omega),if_neg (by omega),if_neg (by omega),if_pos k] at h
   split at h
   · exact ⟨by omega,by omega⟩
   · omega
theorem bU (t:Tg) (hp:GO t=true) (h:VC t=0):∃ bx,Ad CC 84 [BE t] []=some (.ret (.str (To t)),bx):=by
 obtain ⟨l1,l2,l3,l4,l5⟩:=SK hp;obtain ⟨g0,g1,g2,g3,g6⟩:=VH h;clear h hp;unfold To;obtain ⟨k,key,GM,nm,n,m⟩:=t;obtain ⟨d,c,a⟩:=key;obtain ⟨d',c',a'⟩:=GM;simp only at l1 l2 l3 l4 l5 g0 g1 g2 g3 g6 |-;unfold BE;simp only;rw [Ah (fn:=Ab9) (c:=Ab9.body.getD .skip) rfl rfl Qt rfl SR (Ab4 rfl)];by_cases k1:k=1
 · have o:=IQ d c a (g1 k1) (by omega) (by omega)
   have cA:=Cq (a:=[99,104,97,110,103,101,32]) (b:=E3 d c a) (by have:=HQ (a:=c) (b:=a) (g1 k1);simp only [Aau,Aav];omega);subst k1;rw [if_pos rfl];generalize E3 d c a=s at *;clear g0 g1 g2 g3 g6;rw [<- Al];rw [<- AI] at o;simp only [Aa,Ac,Ab9,Aaw];simp only [S8,Af,SG,seval,UT,SC,o,cA];exact ⟨_,rfl⟩
 rw [if_neg k1];by_cases k2:k=2
 · have o:=IQ d' c' a' (g2 k2) (by omega) (by omega)
   have cA:=Cq (a:=[101,118,101,110,116,32]) (b:=E3 d' c' a') (by have:=HQ (a:=c') (b:=a') (g2 k2);simp only [Aau,Aav];omega);subst k2;rw [if_pos rfl];generalize E3 d' c' a'=s at *;clear g0 g1 g2 g3 g6;rw [<- Al];rw [<- AI] at o;simp only [Aa,Ac,Ab9,Aaw];simp only [S8,Af,SG,seval,UT,SC,o,cA];exact ⟨_,rfl⟩
 rw [if_neg k2];by_cases k3:k=3
 · obtain ⟨q1,q2,q3,q4⟩:=g3 k3
   have o:=Sx n ⟨q1,q2⟩;have o2:=dT m ⟨q3,q4⟩;have cA:=Cq (a:=[116,105,109,101,32]) (b:=FL n.toNat) (by rw [NK];simp only [Aau,Aav];omega);have cB:=Cq (a:=cat [116,105,109,101,32] (FL n.toNat)) (b:=[32]) (by rw [AD,NK];simp only [Aau,Aav];omega);have cC:=Cq (a:=cat (cat [116,105,109,101,32] (FL n.toNat)) [32]) (b:=Ql m.toNat) (by have:=dX (n:=m.toNat) (by omega);rw [AD,AD,NK];simp only [Aau,Aav];omega);subst k3;rw [if_pos rfl];generalize FL n.toNat=s at *;generalize Ql m.toNat=w at *;clear g0 g1 g2 g3 g6;by_cases km:m=127
   · rw [if_pos km]
     subst km;rw [<- Al];rw [<- AI] at o o2;simp only [Aa,Ac,Ab9,Aaw];simp only [S8,Af,SG,seval,UT,SC,o,cA];exact ⟨_,rfl⟩
   · rw [if_neg km]
     have kmp:(m == 127)=false:=by simpa using km
     rw [<- Al];rw [<- AI] at o o2;simp only [Aa,Ac,Ab9,Aaw];simp only [S8,Af,SG,seval,UT,SC,o,o2,cA,cB,cC,kmp];exact ⟨_,rfl⟩
 rw [if_neg k3];by_cases k4:k=4
 · have cA:=Cq (a:=[109,111,100,101,32]) (b:=nm) (by simp only [Aau,Aav];omega)
   have he:ED .eql nm []=some (.bool (nm == [])):=rfl;subst k4;rw [if_pos rfl];clear g0 g1 g2 g3 g6;by_cases kn:nm=[]
   · rw [if_pos kn]
     have hb:(nm == [])=true:=by rw [kn];rfl
     rw [hb] at he;rw [<- Al];simp only [Aa,Ac,Ab9,Aaw];simp only [S8,Af,SG,seval,UT,SC,he];exact ⟨_,rfl⟩
   · rw [if_neg kn]
     have hb:(nm == [])=false:=by simpa using kn
     rw [hb] at he;rw [<- Al];simp only [Aa,Ac,Ab9,Aaw];simp only [S8,Af,SG,seval,UT,SC,he,cA];exact ⟨_,rfl⟩
 rw [if_neg k4];by_cases k5:k=5
 · subst k5
   rw [if_pos rfl];clear g0 g1 g2 g3 g6;rw [<- Al];simp only [Aa,Ac,Ab9,Aaw];simp only [S8,Af,SG,seval,UT,SC];exact ⟨_,rfl⟩
 rw [if_neg k5];have k6:k=6:=by omega
 have o:=EI n (g6 k6);have cA:=Cq (a:=[104,111,108,100,32]) (b:=Abk n) (by have:=Dj (g6 k6);simp only [Aau,Aav];omega);subst k6;generalize Abk n=s at *;clear g0 g1 g2 g3 g6;rw [<- Al];rw [<- AI] at o;simp only [Aa,Ac,Ab9,Aaw];simp only [S8,Af,SG,seval,UT,SC,o,cA];exact ⟨_,rfl⟩
theorem lJ (t:Tg) (hp:GO t=true) (h:VC t=0) (bx):Ai CC (Ad CC) 84 [BE t] bx=some (.ret (.str (To t)),bx):=by
 obtain ⟨b,hc⟩:=bU t hp h;exact Ao rfl rfl hc rfl
theorem VI {s:Sp} (h:Zf s=0):(1<=s.k/\s.k<=5)/\(s.k=1->GY s.key.1/\Mz s.ex=0)/\(s.k=2->GY s.key.1/\(gB s.ex=false->Mz s.ex=0)):=by
 unfold Zf at h;split at h
 · rename_i k1
   refine ⟨by omega,fun _=>?_,fun k=>by omega⟩;split at h
   · omega
   split at h
   · rename_i hh;exact absurd h hh
   · rename_i hn
     exact ⟨Xh (a:=s.key.2.1) (b:=s.key.2.2) (by omega),h⟩
 split at h
 · rename_i k2
   refine ⟨by omega,fun k=>by omega,fun _=>?_⟩;split at h
   · omega
   split at h
   · rename_i hh;exact absurd h hh
   · rename_i hn
     refine ⟨Xh (a:=s.key.2.1) (b:=s.nm) (by omega),fun hx=>?_⟩;rw [hx,if_neg (by simp)] at h;exact h
 split at h
 · refine ⟨by omega,fun k=>by omega,fun k=>by omega⟩
 · omega
theorem SS {t:Tr} (hm:0<=Tn t 220 30) (ht:Lu t) (h:Mz t=0):NF t/\(TX t).length<=140000/\∀ least,(EN (an t) least).length<=140002:=by
 have hs:=Vj t 220 30 hm;have hn:=s7 hm;have h1:=(rC t (xF h) hs ht (by omega)).1
 have h2:(TX t).length<=140000:=by
  have:=bR t (xF h) hs ht;omega
 refine ⟨h1,h2,fun least=>?_⟩;have:=Dk (an t) least;have e:TX t=(an t).s:=rfl;rw [e] at h2;omega
theorem Zg (s:Sp) (hp:Hy s=true) (ho:Lu s.ex) (h:Zf s=0):∃ bx,Ad CC 86 [Ec s] []=some (.ret (.str (VE s)),bx):=by
 obtain ⟨l1,l2,l3,l4⟩:=SM hp;obtain ⟨g0,g1,g2⟩:=VI h
 have hk:Mz s.ex=0->(∀ bx,Ai CC (Ad CC) 69 [Bw s.ex,.int .i64 0] bx=some (.ret (.str (EN (an s.ex) 0)),bx))/\(EN (an s.ex) 0).length<=140002:=fun hc=>by
  obtain ⟨t1,t2,t3⟩:=SS l4 ho hc;exact ⟨fun bx=>Ie s.ex t1 (by omega) 0 bx,t3 0⟩
 have onn:=LX s.ex;clear h hp;unfold VE;obtain ⟨k,key,nm,ex⟩:=s;obtain ⟨d,c,a⟩:=key;simp only at l1 l2 l3 g0 g1 g2 hk onn |-;generalize gB ex=nn at *;generalize Mz ex=ck at *;generalize EN (an ex) 0=x at *;clear l4 ho;unfold Ec Vx;obtain ⟨zk,zn,zm,znm,zv,zkey,zkids⟩:=ex;unfold Bw at onn hk |-;have nP:=AW zkids;generalize A1 zkids=zs at *;simp only [SA,Abd,Abe] at onn hk |-;rw [Ah (fn:=Abc) (c:=Abc.body.getD .skip) rfl rfl OU rfl Qu (Ab4 rfl)];by_cases k1:k=1
 · obtain ⟨hi,hc⟩:=g1 k1
   obtain ⟨o1,lx⟩:=hk hc;have o:=IQ d c a hi (by omega) (by omega);have hl:=HQ (a:=c) (b:=a) hi;generalize E3 d c a=w at *;have cA:=Cq (a:=[115,101,116,32]) (b:=w) (by simp only [Aau,Aav];omega);have cB:=Cq (a:=cat [115,101,116,32] w) (b:=[32,61,32]) (by rw [AD];simp only [Aau,Aav];omega);have cC:=Cq (a:=cat (cat [115,101,116,32] w) [32,61,32]) (b:=x) (by rw [AD,AD];simp only [Aau,Aav];omega);subst k1;rw [if_pos rfl];clear g0 g1 g2 hk;rw [<- Al];rw [<- AI] at o o1;simp only [Aa,Ac,Abc,Aaw];simp only [S8,Af,SG,seval,UT,SC,o,o1,cA,cB,cC,nP];exact ⟨_,rfl⟩
 rw [if_neg k1];by_cases k2:k=2
 · obtain ⟨hi,hc⟩:=g2 k2
   have o:=IQ d c nm hi (by omega) (by omega);have hl:=HQ (a:=c) (b:=nm) hi;generalize E3 d c nm=w at *;have cA:=Cq (a:=[99,97,108,108,32]) (b:=w) (by simp only [Aau,Aav];omega);subst k2;rw [if_pos rfl];cases nn with
   | true=>
    rw [if_pos rfl];clear g0 g1 g2 hk hc;rw [<- Al];rw [<- AI] at o onn;simp only [Aa,Ac,Abc,Aaw];simp only [S8,Af,SG,seval,UT,SC,o,onn,cA,nP];exact ⟨_,rfl⟩
   | false=>
    rw [if_neg (by simp)];obtain ⟨o1,lx⟩:=hk (hc rfl);have cB:=Cq (a:=cat [99,97,108,108,32] w) (b:=[40]) (by rw [AD];simp only [Aau,Aav];omega);have cC:=Cq (a:=cat (cat [99,97,108,108,32] w) [40]) (b:=x) (by rw [AD,AD];simp only [Aau,Aav];omega);have cD:=Cq (a:=cat (cat (cat [99,97,108,108,32] w) [40]) x) (b:=[41]) (by rw [AD,AD,AD];simp only [Aau,Aav];omega);clear g0 g1 g2 hk hc;rw [<- Al];rw [<- AI] at o onn o1;simp only [Aa,Ac,Abc,Aaw];simp only [S8,Af,SG,seval,UT,SC,o,onn,o1,cA,cB,cC,cD,nP];exact ⟨_,rfl⟩
 rw [if_neg k2];clear hk onn;by_cases k3:k=3
 · have cA:=Cq (a:=[115,99,101,110,101,32]) (b:=nm) (by simp only [Aau,Aav];omega)
   subst k3;rw [if_pos rfl];clear g0 g1 g2;rw [<- Al];simp only [Aa,Ac,Abc,Aaw];simp only [S8,Af,SG,seval,UT,SC,cA];exact ⟨_,rfl⟩
 rw [if_neg k3];by_cases k4:k=4
 · have cA:=Cq (a:=[109,111,100,101,32]) (b:=nm) (by simp only [Aau,Aav];omega)
   subst k4;rw [if_pos rfl];clear g0 g1 g2;rw [<- Al];simp only [Aa,Ac,Abc,Aaw];simp only [S8,Af,SG,seval,UT,SC,cA];exact ⟨_,rfl⟩
 rw [if_neg k4];have k5:k=5:=by omega
 have o:=KA nm (by omega);have cA:=Cq (a:=[110,111,116,105,102,121,32]) (b:=BD nm) (by have:=VG nm;simp only [Aau,Aav];omega);subst k5;generalize BD nm=w at *;clear g0 g1 g2;rw [<- Al];rw [<- AI] at o;simp only [Aa,Ac,Abc,Aaw];simp only [S8,Af,SG,seval,UT,SC,o,cA];exact ⟨_,rfl⟩
theorem gV (s:Sp) (hp:Hy s=true) (ho:Lu s.ex) (h:Zf s=0) (bx):Ai CC (Ad CC) 86 [Ec s] bx=some (.ret (.str (VE s)),bx):=by
 obtain ⟨b,hc⟩:=Zg s hp ho h;exact Ao rfl (by simp only [AK,Hp,Bk,Abo]) hc rfl
theorem lK {r:Rl} (h:r.nm.length<=100) (h2:GY r.pr):(vO r).length<=200:=by
 have:=Dj h2;unfold vO;simp only [AD,Aau,Aav];omega
theorem lL {t:Tg} (hp:GO t=true) (h:VC t=0):(To t).length<=1000:=by
 obtain ⟨l1,l2,l3,l4,l5⟩:=SK hp;obtain ⟨g0,g1,g2,g3,g6⟩:=VH h;unfold To;split
 · rename_i k
   have:=HQ (a:=t.key.2.1) (b:=t.key.2.2) (g1 k);simp only [AD,Aau,Aav];omega
 split
 · rename_i k
   have:=HQ (a:=t.ev.2.1) (b:=t.ev.2.2) (g2 k);simp only [AD,Aau,Aav];omega
 split
 · rename_i k
   have:=g3 k;have:=dX (n:=t.m.toNat) (by omega);split
   · simp only [AD,NK,Aau,Aav]
     omega
   · simp only [AD,NK,Aau,Aav]
     omega
 split
 · split
   · simp only [Aau,Aav]
     omega
   · simp only [AD,Aau,Aav]
     omega
 split
 · simp only [Aau,Aav]
   omega
 · have:=Dj (g6 (by omega))
   simp only [AD,Aau,Aav];omega
theorem lM {s:Sp} (hp:Hy s=true) (ho:Lu s.ex) (h:Zf s=0):(VE s).length<=141000:=by
 obtain ⟨l1,l2,l3,l4⟩:=SM hp;obtain ⟨g0,g1,g2⟩:=VI h;unfold VE;split
 · rename_i k
   have:=HQ (a:=s.key.2.1) (b:=s.key.2.2) (g1 k).1;have:=(SS l4 ho (g1 k).2).2.2 0;simp only [AD,Aau,Aav];omega
 split
 · rename_i k
   have:=HQ (a:=s.key.2.1) (b:=s.nm) (g2 k).1;split
   · simp only [AD,Aau,Aav]
     omega
   · rename_i hx
     have:=(SS l4 ho ((g2 k).2 (by simpa using hx))).2.2 0;simp only [AD,Aau,Aav];omega
 split
 · simp only [AD,Aau,Aav]
   omega
 split
 · simp only [AD,Aau,Aav]
   omega
 · have:=VG s.nm
   simp only [AD,Aau,Aav];omega
theorem NL:Be CC Abn (Abn.body.getD .skip)=true:=by kernel_rfl
theorem Mp:CC.P.funcs[40]?=some Abn:=by kernel_rfl
theorem SV:Be CC Ab5 (Ab5.body.getD .skip)=true:=by kernel_rfl
theorem Qv:CC.P.funcs[39]?=some Ab5:=by kernel_rfl
def QN (l:List UInt8):PBox:=.cells 72 [Dv l]
def WB (bs:List PBox) (pg:Nat) (acc:List UInt8) (b2:PBox) (ex:List PBox):List PBox:=bs.set pg (QN acc)++b2 :: ex
section
variable (bs:List PBox) (pg:Nat) (b2:PBox) (acc:List UInt8) (ex:List PBox)
theorem Jy:(WB bs pg acc b2 ex).length=ex.length+(bs.length+1):=by
 unfold WB;rw [Aax,Aaz,Aau];omega
theorem Xi:(WB bs pg acc b2 ex)[bs.length]?=some b2:=by
 unfold WB;rw [Abf (by rw [Aaz];exact Abh _),Aaz,Abr];rfl
theorem Jz (x:PBox):WB bs pg acc b2 ex++[x]=WB bs pg acc b2 (ex++[x]):=by
 unfold WB;rw [Ab8];rfl
theorem GP (x:PBox):(WB bs pg acc b2 (ex++[x]))[ex.length+(bs.length+1)]?=some x:=by
 unfold WB;rw [Abf (by rw [Aaz];omega),Aaz,show ex.length+(bs.length+1) - bs.length=ex.length+1 from by omega,Abw,Ab2]
theorem NM (x y:PBox):(WB bs pg acc b2 (ex++[x])).set (ex.length+(bs.length+1)) y=WB bs pg acc b2 (ex++[y]):=by
 unfold WB;rw [Abm _ _ (by rw [Aaz];omega),Aaz,show ex.length+(bs.length+1) - bs.length=ex.length+1 from by omega,Aay,Abm _ _ (Abh _),Abr];rfl
theorem xG:bs.set pg (QN acc)++[b2]=WB bs pg acc b2 []:=rfl
end
theorem Zh {size:Nat} {e:TypeId} {st:St} {al:List (Nat×Loc)} {l:Option Loc} {xs ys:List PV} {d:Option Tmp} (h:xs.length+ys.length<=100000000) (hy:(ys.all fun y=>y.cells.length == size)=true) :
 MK 1 size e st al l xs ys d=some (.next ((MB st l xs).put d (.osl e (xs++ys))) (Aj al d)):=by
 unfold MK;rw [if_neg]
 rintro (h1 | h1 | h1)
 · unfold Gc at h1
   omega
 · unfold Gc at h1
   omega
 · rw [hy] at h1;cases h1
theorem lN (bs:List PBox) (pg:Nat) (XN:pg < bs.length) (acc w:List UInt8) (r:List PBox) (hl:acc.length+w.length<=90000000) (hw:w≠[]):Ad CC 40 [.bp pg 0,.str w] (bs.set pg (QN acc)++r)=some (.ret (.tup []),bs.set pg (QN (acc++w))++r):=by
 have hgp:∀ P r,(bs.set pg P++r)[pg]?=some P:=fun P r=>by rw [Abt (by rw [Aaz];exact XN),List.getElem?_set_self XN]
 have vZ:∀ P Q r,(bs.set pg P++r).set pg Q=bs.set pg Q++r:=fun P Q r=>by rw [List.set_append_left _ _ (by rw [Aaz];exact XN),List.set_set]
 rw [Ah (fn:=Abn) (c:=Abn.body.getD .skip) rfl rfl Mp rfl NL (Ab4 rfl)];have uZ:=Hg acc;have hwl:=Hg w;have ZB:=RJ acc w;have EB:=de w;have hc:(GZ acc).length+(GZ w).length<=100000000:=by omega
 have Xy:(GZ w).length<=100000000:=by omega
 have hb:Dv (acc++w)=.osl 5 (GZ (acc++w)):=by
  unfold Dv;rw [if_neg (by simp [hw])]
 have hpn:Ak [.bp pg 0]=false:=rfl;unfold QN;rw [hb,ZB];clear hb ZB;unfold Dv;by_cases h:acc=[]
 · subst h
   rw [if_pos rfl];have Mw:GZ []=[]:=rfl;rw [Mw] at *;generalize cM:GZ w=ys at *;rw [<- Al];simp only [Aa,Ac,Abn,Aaw];simp only [S8,Af,SG,SH,seval,Vp,cM,Zh,CZ,hgp,vZ,Ac0,Abz,Ws,EB,hc,Xy,Ab0,Aay]
 · rw [if_neg h]
   generalize cM:GZ w=ys at *;generalize GZ acc=xs at *;rw [<- Al];simp only [Aa,Ac,Abn,Aaw];simp only [S8,Af,SG,SH,seval,Vp,cM,Zh,CZ,hgp,vZ,Ac0,Abz,Ws,EB,hc,Ab0,Aay]
theorem OV (bs:List PBox) (pg:Nat) (XN:pg < bs.length) (b2:PBox) (acc w:List UInt8) (ex:List PBox) (hl:acc.length+w.length<=90000000) (hw:w≠[]):Ai CC (Ad CC) 40 [.bp pg 0,.str w] (WB bs pg acc b2 ex)=some (.ret (.tup []),WB bs pg (acc++w) b2 ex):=by
 unfold Ai WB;rw [if_pos (by rfl),lN bs pg XN acc w _ hl hw];simp only;rw [Kw (by simp)]
theorem Xj {a b:List UInt8} (h:b≠[]):cat a b≠[]:=by
 unfold cat;simp [h]
def E6 (pg:Nat):PV:=.fn 40 [.bp pg 0] []
def xH (j:Nat) (bs:List PBox) (pg:Nat) (b2:PBox) (acc:List UInt8) (res:Option (Ex×St)):Prop:=∃ e' ex',res=some (.exit j,⟨e',WB bs pg acc b2 ex'⟩)/\getT e' 0=E6 pg/\getT e' 3=.bp bs.length 0
theorem lO (L:Code) (hL:L=Aa Ab5 [1,1,0,1,0]) (l:List Tg) (hl:l.length<=12) (hc:∀ t ∈ l,(∀ bx,Ai CC (Ad CC) 84 [BE t] bx=some (.ret (.str (To t)),bx))/\(To t).length<=1000) (bs:List PBox) (pg:Nat) (XN:pg < bs.length) (b2:PBox):∀ (k i:Nat) (e:List PV) (acc:List UInt8) (ex:List PBox),i+k=l.length ->
 getT e 0=E6 pg->getT e 3=.bp bs.length 0->getT e 21=.sl (l.map BE)->getT e 22=.int .i64 l.length->getT e 23=.int .i64 i->acc.length<=70000300+1100 * i ->
 xH 0 bs pg b2 (acc++(l.drop i).flatMap lF) (Cf CC L ⟨e,WB bs pg acc b2 ex⟩):=by
 intro k
 induction k with
 | zero=>
  intro i e acc ex DK e0 e3 es el ei ha;rw [AX (Aa Ab5 [1,1,0,1,0,0]) hL];have hi:¬ ((i:Int) < (l.length:Int)):=by omega
  rw [Abl (by omega),Ac1,Abb];generalize l.map BE=xs at *;rw [<- Al];simp only [Aa,Ac,Ab5,Aaw];simp only [S9,Af,seval,Jy,Xi,Jz,GP,NM,E6,Aw,e0,e3,es,el,ei,hi];exact ⟨_,_,rfl,by simp only [S7,Af,seval,e0,E6],by simp only [S7,Af,seval,e3]⟩
 | succ k ih=>
  intro i e acc ex DK e0 e3 es el ei ha;rw [AX (Aa Ab5 [1,1,0,1,0,0]) hL];have hi:((i:Int) < (l.length:Int)):=by omega
  have C4:¬ ((i:Int) < 0):=by omega
  have G1:l.drop i=(l[i]'(by omega)) :: l.drop (i+1):=Abg (by omega);have hx:(l.map BE)[i]?=some (BE (l[i]'(by omega))):=by rw [Abp,Abi (by omega)];rfl
  have I5:=wrap_i64 (n:=(i:Int)+1) ⟨by omega,by omega⟩;have Bb:=(hc (l[i]'(by omega)) (Abj _)).1;have hlen:=(hc (l[i]'(by omega)) (Abj _)).2;have key:=fun e acc ex=>ih (i+1) e acc ex (by omega);have cast1:((i+1:Nat):Int)=(i:Int)+1:=by omega
  rw [cast1] at key;rw [G1,Abq,<- Ab8];have Bv:lF (l[i]'(by omega))=cat (cat [32,32,111,110,32] (To (l[i]'(by omega)))) [59,10]:=rfl;rw [Bv];clear Bv hc;generalize (l.drop (i+1)).flatMap lF=rest at *;generalize l[i]'(by omega)=x at *;generalize To x=s at *;generalize l.map BE=xs at *;have cA:=Cq (a:=[32,32,111,110,32]) (b:=s) (by simp only [Aau,Aav];omega);have cB:=Cq (a:=cat [32,32,111,110,32] s) (b:=[59,10]) (by rw [AD];simp only [Aau,Aav];omega);have lw:(cat (cat [32,32,111,110,32] s) [59,10]).length<=1007:=by rw [AD,AD];simp only [Aau,Aav];omega
  have hp:=fun ex=>OV bs pg XN b2 acc (cat (cat [32,32,111,110,32] s) [59,10]) ex (by omega) (Xj (by simp));have yQ:(acc++cat (cat [32,32,111,110,32] s) [59,10]).length<=70000300+1100 * (i+1):=by rw [Aax];omega
  generalize cat (cat [32,32,111,110,32] s) [59,10]=w at *;obtain ⟨xk,xkey,xev,xnm,xn,xm⟩:=x;obtain ⟨xd,xcl,xat⟩:=xkey;obtain ⟨yd,yc,yn⟩:=xev;unfold BE at hx Bb;simp only at hx Bb;rw [<- Al];rw [<- Al] at key;rw [<- AI] at Bb hp;simp only [Aa,Ac,Ab5,Aaw];simp only [S9,Af,seval,Jy,Xi,Jz,GP,NM,E6,Aw,e0,e3,es,el,ei,hi,C4,hx,I5,Bb,hp,L1,cA,cB];refine key _ _ _ ?_ ?_ ?_ ?_ ?_ yQ
  all_goals simp only [S7,Af,seval,e0,e3,es,el,ei,E6]
theorem lP (L:Code) (hL:L=Aa Ab5 [1,1,1,1,0,1,0]) (l:List Sp) (hl:l.length<=12) (hc:∀ t ∈ l,(∀ bx,Ai CC (Ad CC) 86 [Ec t] bx=some (.ret (.str (VE t)),bx))/\(VE t).length<=141000) (bs:List PBox) (pg:Nat) (XN:pg < bs.length) (b2:PBox):∀ (k i:Nat) (e:List PV) (acc:List UInt8) (ex:List PBox),i+k=l.length ->
 getT e 0=E6 pg->getT e 3=.bp bs.length 0->getT e 49=.sl (l.map Ec)->getT e 50=.int .i64 l.length->getT e 51=.int .i64 i->acc.length<=70160000+142000 * i ->
 xH 2 bs pg b2 (acc++(l.drop i).flatMap lH) (Cf CC L ⟨e,WB bs pg acc b2 ex⟩):=by
 intro k
 induction k with
 | zero=>
  intro i e acc ex DK e0 e3 es el ei ha;rw [AX (Aa Ab5 [1,1,1,1,0,1,0,0]) hL];have hi:¬ ((i:Int) < (l.length:Int)):=by omega
  rw [Abl (by omega),Ac1,Abb];generalize l.map Ec=xs at *;rw [<- Al];simp only [Aa,Ac,Ab5,Aaw];simp only [S9,Af,seval,Jy,Xi,Jz,GP,NM,E6,Aw,e0,e3,es,el,ei,hi];exact ⟨_,_,rfl,by simp only [S7,Af,seval,e0,E6],by simp only [S7,Af,seval,e3]⟩
 | succ k ih=>
  intro i e acc ex DK e0 e3 es el ei ha;rw [AX (Aa Ab5 [1,1,1,1,0,1,0,0]) hL];have hi:((i:Int) < (l.length:Int)):=by omega
  have C4:¬ ((i:Int) < 0):=by omega
  have G1:l.drop i=(l[i]'(by omega)) :: l.drop (i+1):=Abg (by omega);have hx:(l.map Ec)[i]?=some (Ec (l[i]'(by omega))):=by rw [Abp,Abi (by omega)];rfl
  have I5:=wrap_i64 (n:=(i:Int)+1) ⟨by omega,by omega⟩;have Bb:=(hc (l[i]'(by omega)) (Abj _)).1;have hlen:=(hc (l[i]'(by omega)) (Abj _)).2;have key:=fun e acc ex=>ih (i+1) e acc ex (by omega);have cast1:((i+1:Nat):Int)=(i:Int)+1:=by omega
  rw [cast1] at key;rw [G1,Abq,<- Ab8];have Bv:lH (l[i]'(by omega))=cat (cat [32,32,100,111,32] (VE (l[i]'(by omega)))) [59,10]:=rfl;rw [Bv];clear Bv hc;generalize (l.drop (i+1)).flatMap lH=rest at *;generalize l[i]'(by omega)=x at *;generalize VE x=s at *;generalize l.map Ec=xs at *;have cA:=Cq (a:=[32,32,100,111,32]) (b:=s) (by simp only [Aau,Aav];omega);have cB:=Cq (a:=cat [32,32,100,111,32] s) (b:=[59,10]) (by rw [AD];simp only [Aau,Aav];omega);have lw:(cat (cat [32,32,100,111,32] s) [59,10]).length<=141007:=by rw [AD,AD];simp only [Aau,Aav];omega
  have hp:=fun ex=>OV bs pg XN b2 acc (cat (cat [32,32,100,111,32] s) [59,10]) ex (by omega) (Xj (by simp));have yQ:(acc++cat (cat [32,32,100,111,32] s) [59,10]).length<=70160000+142000 * (i+1):=by rw [Aax];omega
  generalize cat (cat [32,32,100,111,32] s) [59,10]=w at *;obtain ⟨xk,xkey,xnm,xex⟩:=x;obtain ⟨xd,xcl,xat⟩:=xkey;obtain ⟨zk,zn,zm,znm,zv,zkey,zkids⟩:=xex;unfold Ec Vx Bw at hx Bb;generalize A1 zkids=zs at *;simp only [SA,Abd,Abe] at hx Bb;rw [<- Al];rw [<- Al] at key;rw [<- AI] at Bb hp;simp only [Aa,Ac,Ab5,Aaw];simp only [S9,Af,seval,Jy,Xi,Jz,GP,NM,E6,Aw,e0,e3,es,el,ei,hi,C4,hx,I5,Bb,hp,Pv,cA,cB];refine key _ _ _ ?_ ?_ ?_ ?_ ?_ yQ
  all_goals simp only [S7,Af,seval,e0,e3,es,el,ei,E6]
theorem Gn {α:Type} (f:α->List UInt8) (c:Nat):∀ l:List α,(∀ x ∈ l,(f x).length<=c)->(l.flatMap f).length<=c * l.length
 | [],_=>by simp
 | x :: r,h=>by
  have h1:=h x List.mem_cons_self;have h2:=Gn f c r fun y hy=>h y (List.mem_cons_of_mem _ hy);rw [Abq,Aax,Aau,Nat.mul_add];omega
theorem lQ {t:Tg} (h:(To t).length<=1000):(lF t).length<=1007:=by
 unfold lF;rw [AD,AD];simp only [Aau,Aav];omega
theorem lR {s:Sp} (h:(VE s).length<=141000):(lH s).length<=141007:=by
 unfold lH;rw [AD,AD];simp only [Aau,Aav];omega
theorem dY:A' CC 24 [(0,.int .i64 1),(1,.int .i64 1)]=some (.agg [.int .i64 1,.int .i64 1,.str []]):=by kernel_rfl
theorem dZ:A' CC 29 [(0,.int .i64 1),(4,.agg [.int .i64 1,.int .i64 1,.str []])]=some (.agg [.int .i64 1,.int .i64 0,.int .i64 0,.str [],.int .i64 1,.int .i64 1,.str [],.int .i64 0,.str [],.str [],.nils]):=by kernel_rfl
theorem bV (r:Rl) (hp:Ig r=true) (ho:Sa r) (h:XJ r=0) (bs:List PBox) (pg:Nat) (XN:pg < bs.length) (acc0:List UInt8) (hac0:acc0.length<=70000000):∃ b2 ex,Ad CC 39 [E6 pg,Dw r] (bs.set pg (QN acc0))=some (.ret (.tup []),WB bs pg (acc0++VF r) b2 ex):=by
 obtain ⟨g1,g2,g3,g4,g5,g6⟩:=SO hp;obtain ⟨p1,p2,p3,p4,p5,p6⟩:=OT h;have ipr:GY r.pr:=⟨by omega,by omega⟩;have hhd:=lK g1 ipr;obtain ⟨t1,t2,t3⟩:=SS g4 ho.2.2.2.2.1 p5;have ok:=Ie r.ife t1 (by omega) 0;have lk:=t3 0;have odg:=EI r.pr ipr;have oys:=fun bx=>Ju r.ife 1 0 0 [] (1,1,[]) (0,[],[]) bx;have Al:∀ t ∈ r.on,(∀ bx,Ai CC (Ad CC) 84 [BE t] bx=some (.ret (.str (To t)),bx))/\(To t).length<=1000:=fun t ht=>⟨lJ t (g5 t ht) (p4 t ht),lL (g5 t ht) (p4 t ht)⟩;have vD:∀ s ∈ r.dos,(∀ bx,Ai CC (Ad CC) 86 [Ec s] bx=some (.ret (.str (VE s)),bx))/\(VE s).length<=141000:=fun s hs=>⟨gV s (g6 s hs) (ho.2.2.2.2.2.2 s hs).2.2.2 (p6 s hs),lM (g6 s hs) (ho.2.2.2.2.2.2 s hs).2.2.2 (p6 s hs)⟩;have lon:=Gn lF 1007 r.on fun t ht=>lQ (Al t ht).2;have ldo:=Gn lH 141007 r.dos fun s hs=>lR (vD s hs).2;have qI:lG r.ife=cat (cat [32,32,105,102,32] (EN (an r.ife) 0)) [59,10]:=rfl
 have lif:(lG r.ife).length<=140009:=by
  rw [qI,AD,AD];simp only [Aau,Aav];omega
 have cM:bA r.ife 1 0 0 [] (1,1,[]) (0,[],[])=SQ r.ife:=rfl;rw [cM] at oys;unfold VF;simp only [<- Ab8];have hhe:vO r=cat (cat (cat (cat [114,117,108,101,32] r.nm) [32,112,114,105,111,114,105,116,121,32]) (Abk r.pr)) [32,123,10]:=rfl;have lit:=Dj ipr;clear h hp ho t1 t2 t3 p1 p2 p3 p4 p5 p6 g4 g5 g6 ipr cM;obtain ⟨nm,pr,on,ife,dos⟩:=r;simp only at *;have l1:(on.map BE).length=on.length:=Ab7 _;have l2:(dos.map Ec).length=dos.length:=Ab7 _;have Bv:=fun b2 e acc ex=>lO _ rfl on (by omega) Al bs pg XN b2 on.length 0 e acc ex (by omega);have QV:=fun b2 e acc ex=>lP _ rfl dos (by omega) vD bs pg XN b2 dos.length 0 e acc ex (by omega);rw [Abs] at Bv QV;have c1:=Cq (a:=[114,117,108,101,32]) (b:=nm) (by simp only [Aau,Aav];omega);have c2:=Cq (a:=cat [114,117,108,101,32] nm) (b:=[32,112,114,105,111,114,105,116,121,32]) (by rw [AD];simp only [Aau,Aav];omega);have c3:=Cq (a:=cat (cat [114,117,108,101,32] nm) [32,112,114,105,111,114,105,116,121,32]) (b:=Abk pr) (by rw [AD,AD];simp only [Aau,Aav];omega);have c4:=Cq (a:=cat (cat (cat [114,117,108,101,32] nm) [32,112,114,105,111,114,105,116,121,32]) (Abk pr)) (b:=[32,123,10]) (by rw [AD,AD,AD];simp only [Aau,Aav];omega)
 have d1:=Cq (a:=[32,32,105,102,32]) (b:=EN (an ife) 0) (by simp only [Aau,Aav];omega);have d2:=Cq (a:=cat [32,32,105,102,32] (EN (an ife) 0)) (b:=[59,10]) (by rw [AD];simp only [Aau,Aav];omega);rw [<- hhe] at c4;rw [<- qI] at d2;have Dx:vO ⟨nm,pr,on,ife,dos⟩≠[]:=by rw [hhe];exact Xj (by simp)
 have ze:lG ife≠[]:=by rw [qI];exact Xj (by simp)
 clear hhe qI Al vD;generalize vO ⟨nm,pr,on,ife,dos⟩=hd at *;generalize lG ife=iff at *;generalize EN (an ife) 0=kd at *;generalize SQ ife=ys at *;generalize on.flatMap lF=ons at *;generalize dos.flatMap lH=dss at *;generalize Abk pr=dg at *;have q1:=fun b2 ex=>OV bs pg XN b2 acc0 hd ex (by omega) Dx;have q2:=fun b2 ex=>OV bs pg XN b2 (acc0++hd++ons) iff ex (by rw [Aax,Aax];omega) ze;have q3:=fun b2 ex=>OV bs pg XN b2 (acc0++hd++ons++dss) [125,10] ex (by simp only [Aax,Aau,Aav];omega) (by simp);have q4:=fun b2 ex=>OV bs pg XN b2 (acc0++hd++ons++iff++dss) [125,10] ex (by simp only [Aax,Aau,Aav];omega) (by simp);have a1:(acc0++hd).length<=70000300+1100 * 0:=by rw [Aax];omega
 have a2:(acc0++hd++ons).length<=70160000+142000 * 0:=by rw [Aax,Aax];omega
 have a3:(acc0++hd++ons++iff).length<=70160000+142000 * 0:=by rw [Aax,Aax,Aax];omega
 clear hac0 hhd lk lon ldo lif lit g1 g2 g3 Dx ze;unfold Dw Vx;obtain ⟨zk,zn,zm,znm,zv,zkey,zkids⟩:=ife;unfold Bw at ok oys |-;unfold YQ at oys;generalize A1 zkids=zs at *;simp only [SA,Abd,Abe] at ok oys |-;generalize on.map BE=xs at *;generalize dos.map Ec=zz at *;rw [Ah (fn:=Ab5) (c:=Ab5.body.getD .skip) rfl rfl Qv rfl SV (Ab4 rfl)];rw [<- Al];rw [<- AI] at ok odg oys q1 q2 q3 q4;rw [<- Al] at Bv QV;simp only [Aa,Ac,Ab5,Aaw] at Bv QV |-;simp only [S9,Af,seval,Jy,Xi,Jz,GP,NM,E6,Aw,odg,c1,c2,c3,c4,xG,Aaz,q1,l1];generalize hE:GM (Abx _) _=z
 have hP:xH 0 bs pg (.cells 32 [.str nm,.int .i64 pr,.sl xs,.int .i64 zk,.int .i64 zn,.int .i64 zm,.str znm,.int .i64 zv.1,.int .i64 zv.2.1,.str zv.2.2,.int .i64 zkey.1,.str zkey.2.1,.str zkey.2.2,.sl zs,.sl zz]) (acc0++hd++ons) z:=by
  rw [<- hE];refine Bv _ _ _ _ ?_ ?_ ?_ ?_ ?_ a1
  all_goals first | (simp only [S7,Af,seval,E6];done) | (simp only [S7,Af,seval,E6] <;> rfl)
 obtain ⟨e',ex',rfl,k0,k3⟩:=hP;unfold E6 at k0;cases ys with
 | true=>
  rw [if_pos rfl,Abb];simp only [S9,Af,seval,Jy,Xi,Jz,GP,NM,E6,Aw,k0,k3,dY,dZ,HY,oys,l2];generalize vE:GM (Abx _) _=z2
  have vF:xH 2 bs pg (.cells 32 [.str nm,.int .i64 pr,.sl xs,.int .i64 zk,.int .i64 zn,.int .i64 zm,.str znm,.int .i64 zv.1,.int .i64 zv.2.1,.str zv.2.2,.int .i64 zkey.1,.str zkey.2.1,.str zkey.2.2,.sl zs,.sl zz]) (acc0++hd++ons++dss) z2:=by
   rw [<- vE];refine QV _ _ _ _ ?_ ?_ ?_ ?_ ?_ a2
   all_goals first | (simp only [S7,Af,seval,E6,k0,k3];done) | (simp only [S7,Af,seval,E6,k0,k3] <;> rfl)
  obtain ⟨e2,iB,rfl,m0,m3⟩:=vF;unfold E6 at m0;simp only [S9,Af,seval,Jy,Xi,Jz,GP,NM,E6,Aw,m0,m3,q3];exact ⟨_,_,rfl⟩
 | false=>
  rw [if_neg (by simp)];simp only [S9,Af,seval,Jy,Xi,Jz,GP,NM,E6,Aw,k0,k3,dY,dZ,HY,oys,ok,d1,d2,q2,l2];generalize vE:GM (Abx _) _=z2
  have vF:xH 2 bs pg (.cells 32 [.str nm,.int .i64 pr,.sl xs,.int .i64 zk,.int .i64 zn,.int .i64 zm,.str znm,.int .i64 zv.1,.int .i64 zv.2.1,.str zv.2.2,.int .i64 zkey.1,.str zkey.2.1,.str zkey.2.2,.sl zs,.sl zz]) (acc0++hd++ons++iff++dss) z2:=by
   rw [<- vE];refine QV _ _ _ _ ?_ ?_ ?_ ?_ ?_ a3
   all_goals first | (simp only [S7,Af,seval,E6,k0,k3];done) | (simp only [S7,Af,seval,E6,k0,k3] <;> rfl)
  obtain ⟨e2,iB,rfl,m0,m3⟩:=vF;unfold E6 at m0;simp only [S9,Af,seval,Jy,Xi,Jz,GP,NM,E6,Aw,m0,m3,q4];exact ⟨_,_,rfl⟩
theorem ZPg:zeroCells CC 72=some [.nils]:=by kernel_rfl
theorem ea:QN []=.cells 72 [.nils]:=rfl
theorem tl {l:List UInt8} (h:l≠[]):QN l=.cells 72 [.osl 5 (GZ l)]:=by
 unfold QN Dv;rw [if_neg h]
theorem gW (r:Rl):Ak (Dw r).cells=true:=by
 have h:=IU r;unfold Dw at h |-;unfold PV.pure at h;exact h
theorem VJ (n:Nat) (l:List UInt8):(QN l).under n=true:=by
 unfold QN Dv;by_cases h:l=[]
 · rw [if_pos h]
   rfl
 · rw [if_neg h]
   show Ar _ [.osl 5 (GZ l)]=true;simpa [Ar,PV.under] using Mc _ l
theorem lS (r:Rl) (hp:Ig r=true) (ho:Sa r) (h:XJ r=0) (bs:List PBox) (pg:Nat) (XN:pg < bs.length) (hc:DM bs) (acc:List UInt8) (hl:acc.length<=70000000):Ai CC (Ad CC) 39 [E6 pg,Dw r] (bs.set pg (QN acc))=some (.ret (.tup []),bs.set pg (QN (acc++VF r))):=by
 obtain ⟨b2,ex,hw⟩:=bV r hp ho h bs pg XN acc hl;unfold Ai;rw [if_pos (by rw [AK] <;> rfl),hw];simp only;unfold Eu WB
 have ht:(bs.set pg (QN (acc++VF r))++b2 :: ex).take (bs.set pg (QN acc)).length=bs.set pg (QN (acc++VF r)):=by
  rw [Aaz,List.take_append_of_le_length (by rw [Aaz];exact Abh _),List.take_of_length_le (by rw [Aaz];exact Abh _)]
 rw [ht,if_pos];rw [Bool.and_eq_true,Aaz];refine ⟨rfl,?_⟩;have:=KD (id:=pg) (P:=QN (acc++VF r)) (ys:=[]) hc (VJ _ _) rfl;unfold DM BX at this;rw [Abb,Aaz] at this;exact this
theorem Zi:Be CC Ac5 (Ac5.body.getD .skip)=true:=by kernel_rfl
theorem Xk:CC.P.funcs[26]?=some Ac5:=by kernel_rfl
theorem bW:Be CC Ac4 (Ac4.body.getD .skip)=true:=by kernel_rfl
theorem Zj:CC.P.funcs[55]?=some Ac4:=by kernel_rfl
theorem SW:Be CC Ab6 (Ab6.body.getD .skip)=true:=by kernel_rfl
theorem Qw:CC.P.funcs[19]?=some Ab6:=by kernel_rfl
theorem pE {r:Rl} (hp:Ig r=true) (ho:Sa r) (h:XJ r=0):(VF r).length<=3000000:=by
 obtain ⟨g1,g2,g3,g4,g5,g6⟩:=SO hp;obtain ⟨p1,p2,p3,p4,p5,p6⟩:=OT h;have hhd:=lK g1 (r:=r) ⟨by omega,by omega⟩;have t3:=(SS g4 ho.2.2.2.2.1 p5).2.2 0;have lon:=Gn lF 1007 r.on fun t ht=>lQ (lL (g5 t ht) (p4 t ht));have ldo:=Gn lH 141007 r.dos fun s hs=>lR (lM (g6 s hs) (ho.2.2.2.2.2.2 s hs).2.2.2 (p6 s hs))
 have lif:(if SQ r.ife=true then [] else lG r.ife).length<=140009:=by
  split
  · simp
  · unfold lG
    rw [AD,AD];simp only [Aau,Aav];omega
 unfold VF;simp only [Aax,Aau,Aav];omega
theorem ZRl:zeroCells CC 32=some [.str [],.int .i64 0,.nils,.int .i64 0,.int .i64 0,.int .i64 0,.str [],.int .i64 0,.int .i64 0,.str [],.int .i64 0,.str [],.str [],.nils,.nils]:=by kernel_rfl
def bX (l:List Rl) (nm:List UInt8):Bool:=l.any fun b=>b.nm == nm
def VK:List Rl->List Rl->List UInt8->Int×List UInt8
 | _,[],acc=>(0,acc)
 | pre,r :: rest,acc=>if XJ r=0 then (if bX pre r.nm=true then (9,[]) else VK (pre++[r]) rest (acc++VF r)) else (XJ r,[])
def UA (l:List Rl):Int×List UInt8:=if 40 < l.length then (3,[]) else if (VK [] l []).1=0 then (if (BH (VK [] l []).2).2.2=0 then (0,(VK [] l []).2) else (3,[])) else ((VK [] l []).1,[])
theorem SY {α:Type} (ys:List α) (x y:α):(ys++[x]).set ys.length y=ys++[y]:=by
 rw [Abm _ _ (Abh _),Abr];rfl
theorem eb {α:Type} {ys:List α} {J:Nat} {b:α} (h:ys[J]?=some b) (z:List α):(ys++z)[J]?=some b:=by
 rw [Abt (List.getElem?_eq_some_iff.1 h).1,h]
def pF (b:Bool) (e:List PV) (P:PBox) (ys:List PBox) (z:Option (Ex×St)):Prop:=match b with
 | true=>∃ e' ys',z=some (.ret,⟨e',P :: ys'⟩)/\getT e' 2=.str []/\getT e' 3=.int .i64 9
 | false=>∃ e' ys',z=some (.exit 2,⟨e',P :: (ys++ys')⟩)/\(∀ n,(ys'.all fun y=>y.under n)=true)/\getT e' 0=getT e 0/\getT e' 4=getT e 4/\getT e' 5=getT e 5/\getT e' 7=getT e 7/\getT e' 19=getT e 19/\getT e' 20=getT e 20/\getT e' 21=getT e 21
theorem gX {b:Bool} {e E:List PV} {P:PBox} {ys:List PBox} {x:PBox} {z:Option (Ex×St)} (hx:∀ n,x.under n=true) (k0:getT E 0=getT e 0) ( k4:getT E 4=getT e 4) ( k5:getT E 5=getT e 5) ( k7:getT E 7=getT e 7) ( k19:getT E 19=getT e 19) ( k20:getT E 20=getT e 20) ( k21:getT E 21=getT e 21) (h:pF b E P (ys++[x]) z):pF b e P ys z:=by
 cases b with
 | true=>exact h
 | false=>
  obtain ⟨e',ys',h1,h2,g0,g4,g5,g7,g19,g20,g21⟩:=h;refine ⟨e',x :: ys',?_,fun n=>by rw [Abv,hx,h2];rfl,g0.trans k0,g4.trans k4,g5.trans k5,g7.trans k7,g19.trans k19,g20.trans k20,g21.trans k21⟩;rw [h1,Ab8];rfl
theorem VL (r:Rl) (n:Nat):(PBox.cells 32 (Dw r).cells).under n=true:=Cx n _ (gW r)
theorem tn (L:Code) (hL:L=Aa Ab6 [1,1,1,1,0,1,0,0,1,1,0,0,1,1,0,1,0]) (pre:List Rl) (hl:pre.length<=50) (nm:List UInt8) (rc:List PV) (J:Nat) (P:PBox):∀ (k i:Nat) (e:List PV) (ys:List PBox),i+k=pre.length ->
 ys[J]?=some (.cells 32 (.str nm :: rc))->getT e 7=.bp (J+1) 0->getT e 33=.sl (pre.map Dw)->getT e 34=.int .i64 pre.length->getT e 35=.int .i64 i ->
 pF (bX (pre.drop i) nm) e P ys (Cf CC L ⟨e,P :: ys⟩):=by
 intro k
 induction k with
 | zero=>
  intro i e ys DK hJ e7 es el ei;rw [AX (Aa Ab6 [1,1,1,1,0,1,0,0,1,1,0,0,1,1,0,1,0,0]) hL];have hi:¬ ((i:Int) < (pre.length:Int)):=by omega
  rw [Abl (by omega)];generalize pre.map Dw=xs at *;rw [<- Al];simp only [Aa,Ac,Ab6,Aaw];simp only [S9,Af,seval,Aw,es,el,ei,hi];exact ⟨_,[],by rw [Abb],fun n=>rfl,by simp only [S7,Af,seval],by simp only [S7,Af,seval],by simp only [S7,Af,seval],by simp only [S7,Af,seval],by simp only [S7,Af,seval],by simp only [S7,Af,seval],by simp only [S7,Af,seval]⟩
 | succ k ih=>
  intro i e ys DK hJ e7 es el ei;rw [AX (Aa Ab6 [1,1,1,1,0,1,0,0,1,1,0,0,1,1,0,1,0,0]) hL];have hi:((i:Int) < (pre.length:Int)):=by omega
  have C4:¬ ((i:Int) < 0):=by omega
  have G1:pre.drop i=(pre[i]'(by omega)) :: pre.drop (i+1):=Abg (by omega);have hx:(pre.map Dw)[i]?=some (Dw (pre[i]'(by omega))):=by rw [Abp,Abi (by omega)];rfl
  have I5:=wrap_i64 (n:=(i:Int)+1) ⟨by omega,by omega⟩;have v8:=VL (pre[i]'(by omega));have key:=fun e ys=>ih (i+1) e ys (by omega);have cast1:((i+1:Nat):Int)=(i:Int)+1:=by omega
  rw [cast1] at key;rw [G1];have vU:bX ((pre[i]'(by omega)) :: pre.drop (i+1)) nm=((pre[i]'(by omega)).nm == nm || bX (pre.drop (i+1)) nm):=rfl;rw [vU];clear vU;generalize bX (pre.drop (i+1)) nm=rest at *;generalize pre[i]'(by omega)=x at *;generalize pre.map Dw=ps at *;have hz:=ZRl;have hs:=fun a b=>SY ys a b;have hg:=fun a=>Ab2 (l:=ys) (a:=a);have yU:=eb hJ;have EC:ED .eql x.nm nm=some (.bool (x.nm == nm)):=rfl;obtain ⟨xnm,xpr,xon,⟨xk,xn,xm,xsn,xv,xkey,xkids⟩,xdos⟩:=x;unfold Dw Vx at hx v8;simp only at EC |-;unfold Bw at hx v8;simp only [SA,Abd,Abe] at hx v8;generalize A1 xkids=zs at *;generalize xon.map BE=us at *;generalize xdos.map Ec=vs at *;have rU:Ak zs=true->True:=fun _=>trivial;cases hn:xnm == nm with
  | true=>
   rw [hn] at EC;rw [<- Al];simp only [Aa,Ac,Ab6,Aaw];simp only [S9,Af,seval,Aw,es,el,ei,e7,hi,C4,hx,EC,hz,hs,hg,yU,Aax,Aay,Bool.true_or];exact ⟨_,_,rfl,by simp only [S7,Af,seval],by simp only [S7,Af,seval]⟩
  | false=>
   rw [hn] at EC;rw [<- Al];rw [<- Al] at key;simp only [Aa,Ac,Ab6,Aaw];simp only [S9,Af,seval,Aw,es,el,ei,e7,hi,C4,hx,I5,EC,hz,hs,hg,yU,Aax,Aay,Bool.false_or];refine gX v8 ?_ ?_ ?_ ?_ ?_ ?_ ?_ (key _ _ (yU _) ?_ ?_ ?_ ?_)
   all_goals simp only [S7,Af,seval,e7,es,el,ei]
theorem gY (xs:List PV) (n:Nat) (h:n<=xs.length):FW CC 41 (.sl xs) none (some (.int .i64 (n:Int)))=some (.sl (xs.take n)):=by
 have hb:D7 xs.length xs.length (some (.int .i64 (n:Int)))=some n:=by
  unfold D7 L4;simp only;rw [if_pos ⟨by omega,by omega⟩];simp
 unfold FW;rw [show CC.P.underlying 41=some (.slice 32) from by kernel_rfl];simp only [CK,show tSize CC 32=some 15 from by kernel_rfl,hb,show D7 n 0 none=some 0 from rfl,true_or,if_true,Abs]
def xI (r:Int×List UInt8) (z:Option (Ex×St)):Prop:=if r.1=0 then ∃ e' ys',z=some (.exit 0,⟨e',QN r.2 :: ys'⟩)/\getT e' 4=.bp 0 0 else ∃ e' b',z=some (.ret,⟨e',b'⟩)/\getT e' 2=.str []/\getT e' 3=.int .i64 r.1
theorem ee {c:Int} {s:List UInt8} {z:Option (Ex×St)} (hc:c≠0) (h:∃ e' b',z=some (.ret,⟨e',b'⟩)/\getT e' 2=.str []/\getT e' 3=.int .i64 c):xI (c,s) z:=by
 unfold xI;rw [if_neg hc];exact h
theorem tq (acc:List UInt8) (ys:List PBox) (h:∀ n,(ys.all fun y=>y.under n)=true):DM (QN acc :: ys):=by
 unfold DM;rw [Abv,VJ,h];rfl
theorem xJ (L:Code) (hL:L=Aa Ab6 [1,1,1,1,0,1,0]) (l:List Rl) (hl:l.length<=20) (EB:∀ r ∈ l,Ig r=true/\Sa r):∀ (rest pre:List Rl) (e:List PV) (acc:List UInt8) (ys:List PBox),l=pre++rest ->
 getT e 0=.sl (l.map Dw)->getT e 4=.bp 0 0->getT e 5=E6 0->getT e 19=.sl (l.map Dw)->getT e 20=.int .i64 l.length->getT e 21=.int .i64 pre.length->(∀ n,(ys.all fun y=>y.under n)=true)->acc.length<=3000000 * pre.length ->
 xI (VK pre rest acc) (Cf CC L ⟨e,QN acc :: ys⟩):=by
 intro rest
 induction rest with
 | nil=>
  intro pre e acc ys Tj e0 e4 e5 es el ei cM vD;rw [AX (Aa Ab6 [1,1,1,1,0,1,0,0]) hL];rw [Abb] at Tj;have hi:¬ ((pre.length:Int) < (l.length:Int)):=by rw [Tj];omega
  unfold VK;generalize l.map Dw=xs at *;rw [<- Al];simp only [Aa,Ac,Ab6,Aaw];simp only [S9,Af,seval,Aw,es,el,ei,hi];exact ⟨_,_,rfl,by simp only [S7,Af,seval,e4]⟩
 | cons r rest ih=>
  intro pre e acc ys Tj e0 e4 e5 es el ei cM vD;rw [AX (Aa Ab6 [1,1,1,1,0,1,0,0]) hL];have eK:l.length=pre.length+(rest.length+1):=by rw [Tj,Aax,Aau]
  have hi:((pre.length:Int) < (l.length:Int)):=by omega
  have C4:¬ ((pre.length:Int) < 0):=by omega
  have hx:(l.map Dw)[pre.length]?=some (Dw r):=by rw [Tj,Ac2,Abf (by rw [Ab7];exact Abh _),Ab7,Abr];rfl
  have Mv:=gY (l.map Dw) pre.length (by rw [Ab7];omega);have QX:(l.map Dw).take pre.length=pre.map Dw:=by rw [Tj,Ac2,List.take_left' (by rw [Ab7])]
  rw [QX] at Mv;clear QX;have I5:=wrap_i64 (n:=(pre.length:Int)+1) ⟨by omega,by omega⟩;obtain ⟨hp,ho⟩:=EB r (by rw [Tj];simp);have och:=OS r hp;have cO:=fun e ys rc J=>tn _ rfl pre (by omega) r.nm rc J (QN acc) pre.length 0 e ys (Nat.zero_add _);rw [Abs] at cO;have key:=fun e ys (hr0:XJ r=0)=>ih (pre++[r]) e (acc++VF r) ys (by rw [Tj,Ab8] <;> rfl);have cast1:(((pre++[r]).length:Nat):Int)=(pre.length:Int)+1:=by rw [Aax];rfl
  rw [cast1] at key
  have nq:XJ r=0->(acc++VF r).length<=3000000 * (pre++[r]).length:=fun h0=>by
   have:=pE hp ho h0;rw [Aax,Aax,Aby];omega
  have eT:=fun (h0:XJ r=0) (bs:List PBox) (hb:∀ n,(bs.all fun y=>y.under n)=true)=>lS r hp ho h0 (QN acc :: bs) 0 (Nat.succ_pos _) (tq acc bs hb) acc (by omega);simp only [Ab0] at eT;have ZM:=VL r;have hlenp:((pre.map Dw).length:Int)=(pre.length:Int):=by rw [Ab7]
  rw [VK];have hz:=ZRl;have hs:=fun a b=>SY ys a b;have hg:=fun a=>Ab2 (l:=ys) (a:=a);clear Tj EB ih eK;generalize VK (pre++[r]) rest (acc++VF r)=res at *;generalize hdd:bX pre r.nm=dd at *;generalize XJ r=er at *;generalize VF r=rs at *;generalize hPP:pre++[r]=pre2 at *;generalize l.map Dw=ls at *;generalize eP:pre.map Dw=ps at *;generalize Ke:pre.length=pn at *;generalize l.length=ln at *;clear hdd eP Ke hPP;unfold E6 at e5 eT key;obtain ⟨nm,pr,on,⟨zk,zn,zm,znm,zv,zkey,zkids⟩,dos⟩:=r;unfold Dw Vx Bw at hx och eT ZM;simp only [SA,Abd,Abe,PV.cells] at hx och eT ZM cO |-;have nP:=AW zkids;have nG:=NG on;have eX:=NH dos;generalize A1 zkids=zs at *;generalize on.map BE=xs at *;generalize dos.map Ec=zz at *;have hcons:∀ (a:PBox) (b c:List PBox),a :: b++c=a :: (b++c):=fun _ _ _=>rfl;by_cases h0:er=0
  case neg=>
   rw [if_neg h0];refine ee h0 ?_;have p:(er != 0)=true:=by simpa using h0
   clear cO key eT;rw [<- Al];rw [<- AI] at och;simp only [Aa,Ac,Ab6,Aaw];simp only [S9,Af,seval,Aw,e0,e4,e5,es,el,ei,hi,C4,hx,och,p,hz,hs,hg,nG,eX,nP,Aay];exact ⟨_,_,rfl,by simp only [S7,Af,seval],by simp only [S7,Af,seval]⟩
  subst h0;rw [if_pos rfl];have iG:=fun e=>cO e (ys++[.cells 32 [.str nm,.int .i64 pr,.sl xs,.int .i64 zk,.int .i64 zn,.int .i64 zm,.str znm,.int .i64 zv.1,.int .i64 zv.2.1,.str zv.2.2,.int .i64 zkey.1,.str zkey.2.1,.str zkey.2.2,.sl zs,.sl zz]]) [.int .i64 pr,.sl xs,.int .i64 zk,.int .i64 zn,.int .i64 zm,.str znm,.int .i64 zv.1,.int .i64 zv.2.1,.str zv.2.2,.int .i64 zkey.1,.str zkey.2.1,.str zkey.2.2,.sl zs,.sl zz] ys.length (Ab2 ..);clear cO;have key:=fun e ys=>key e ys rfl;have eT:=eT rfl;have nq:=nq rfl;simp only [Aa,Ac,Ab6,Aaw] at iG |-;rw [<- Al];rw [<- Al] at iG key;rw [<- AI] at och eT;simp only [S9,Af,seval,Aw,e0,e4,e5,es,el,ei,hi,C4,hx,och,hz,hs,hg,nG,eX,nP,Mv,hlenp,Aay];generalize hE:GM (Abx _) _=z
  have hP:∃ E,pF dd E (QN acc) (ys++[.cells 32 [.str nm,.int .i64 pr,.sl xs,.int .i64 zk,.int .i64 zn,.int .i64 zm,.str znm,.int .i64 zv.1,.int .i64 zv.2.1,.str zv.2.2,.int .i64 zkey.1,.str zkey.2.1,.str zkey.2.2,.sl zs,.sl zz]]) z/\getT E 0=.sl ls/\getT E 4=.bp 0 0/\getT E 5=.fn 40 [.bp 0 0] []/\getT E 7=.bp (ys.length+1) 0/\getT E 19=.sl ls/\getT E 20=.int .i64 (ln:Int)/\getT E 21=.int .i64 (pn:Int):=by
   rw [<- hE];refine ⟨_,iG _ ?_ ?_ ?_ ?_,?_,?_,?_,?_,?_,?_,?_⟩
   all_goals first | (simp only [S7,Af,seval,e0,e4,e5,es,el,ei];done) | (simp only [S7,Af,seval,e0,e4,e5,es,el,ei] <;> rfl)
  obtain ⟨E,hP,E0,E4,E5,E7,E19,E20,E21⟩:=hP;clear hE iG;cases dd with
  | true=>
   obtain ⟨e',ys',rfl,g2,g3⟩:=hP;simp only [if_true];refine ee (by decide) ?_;simp only [S9,Af,seval,Aw,g2];exact ⟨_,_,rfl,g2,g3⟩
  | false=>
   obtain ⟨e',ys',rfl,hu,k0,k4,k5,k7,k19,k20,k21⟩:=hP;simp only [Bool.false_eq_true,if_false]
   have rR:∀ n,((ys++[PBox.cells 32 [.str nm,.int .i64 pr,.sl xs,.int .i64 zk,.int .i64 zn,.int .i64 zm,.str znm,.int .i64 zv.1,.int .i64 zv.2.1,.str zv.2.2,.int .i64 zkey.1,.str zkey.2.1,.str zkey.2.2,.sl zs,.sl zz]]++ys').all fun y=>y.under n)=true:=fun n=>by
    rw [Ac3,Ac3,cM,hu,Abv,ZM];rfl
   have eT:=eT _ rR;have hgt:(ys++[PBox.cells 32 [.str nm,.int .i64 pr,.sl xs,.int .i64 zk,.int .i64 zn,.int .i64 zm,.str znm,.int .i64 zv.1,.int .i64 zv.2.1,.str zv.2.2,.int .i64 zkey.1,.str zkey.2.1,.str zkey.2.2,.sl zs,.sl zz]]++ys')[ys.length]?=some (.cells 32 [.str nm,.int .i64 pr,.sl xs,.int .i64 zk,.int .i64 zn,.int .i64 zm,.str znm,.int .i64 zv.1,.int .i64 zv.2.1,.str zv.2.2,.int .i64 zkey.1,.str zkey.2.1,.str zkey.2.2,.sl zs,.sl zz]):=eb (Ab2 ..) ys';generalize ys++[PBox.cells 32 [.str nm,.int .i64 pr,.sl xs,.int .i64 zk,.int .i64 zn,.int .i64 zm,.str znm,.int .i64 zv.1,.int .i64 zv.2.1,.str zv.2.2,.int .i64 zkey.1,.str zkey.2.1,.str zkey.2.2,.sl zs,.sl zz]]++ys'=Y at *;rw [E0] at k0;rw [E4] at k4;rw [E5] at k5;rw [E7] at k7;rw [E19] at k19;rw [E20] at k20;rw [E21] at k21;simp only [S9,Af,seval,Aw,k0,k4,k5,k7,k19,k20,k21,hgt,eT,nG,eX,nP,I5];refine key _ _ ?_ ?_ ?_ ?_ ?_ ?_ rR nq
   all_goals simp only [S7,Af,seval,k0,k4,k5,k19,k20,k21]
end Go.HH
