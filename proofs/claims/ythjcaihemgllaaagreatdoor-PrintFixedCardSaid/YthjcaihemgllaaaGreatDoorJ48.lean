/-
  What the law needs, packed: SM SA SB SC.
-/
import Derived.Test.YthjcaihemgllaaaGreatDoorJ47
open List renaming getElem?_cons_zero->Aa0,length_append->Aa1,getElem?_cons_succ->Aa2,getElem?_toArray->Aa3,append_assoc->Aa4,length_cons->Aa5,append_nil->Aaa,nil_append->Aab,cons_append->Aad,all_eq_true->Aai,drop_left->Aak,drop_drop->Aal,length_singleton->Aao,takeWhile_cons->Aap,flatMap_cons->Aaq,length_drop->Aat,map_append->Aau,length_nil->Aav,map_cons->Aaw
open Go.Proofs.Tryz renaming f54->Aa6
open Option renaming getD->Aa7
open Bool renaming and_eq_true->Aa8,or_eq_false_iff->Aa9,false_eq_true->Aac,or_true->Aae,false_or->Aah,or_eq_true->Aaj,not_eq_true'->Aar,true_or->Aax
open UInt8 renaming toNat_lt->Aaf,toNat_inj->Aas
open Nat renaming le_refl->Aag,add_assoc->Aam,add_zero->Aan,sub_self->Aay,lt_trans->Aaz,zero_le->Ab1
open False renaming elim->Ab0
namespace Go.HH
open Go Go.Proofs
set_option maxRecDepth 100000
set_option maxHeartbeats 4000000
set_option linter.unusedSimpArgs false
set_option linter.unusedVariables false
def LS:List Nat->Bool
 | []=>true
 | i :: acc=>if acc.contains 10 || acc.contains 11 then LS acc else i != 11
def FP (n:Nat) (i:Int) (ds:List PV) (sc:List PV) (f:Bool):List (Nat×Nat×PV):=
 [(0,51,.bp 0 14),(1,52,.sl ds),(2,53,.int .i64 i),(3,54,.ip sc),(4,55,.agg sc),(5,56,.bp 1 14),(6,57,.sl ds),(7,58,.int .i64 i),(8,59,.ip sc),(9,60,.agg sc),
  (10,6,.bp (if f then n else n+1) 0),(11,7,.bp (if f then n+1 else n) 0)]
theorem Mk (n:Nat) (i:Int) (ds sc:List PV) (f:Bool):(FP n i ds sc f).Pairwise (fun x y=>x.1≠y.1/\x.2.1≠y.2.1):=by
 unfold FP;simp
theorem bz (e:List PV) (D:Nat->Bool) (n:Nat) (i:Int) (ds sc:List PV) (f f':Bool) (h1:D 10=false) (h2:D 11=false):Bv e D (FP n i ds sc f)=Bv e D (FP n i ds sc f'):=by
 unfold FP;simp only [Bv,h1,h2,Aac,if_false]
def gD:List PV:=[.int .i64 0,.int .i64 0,.str [],.str [],.str [],.int .i64 0,.int .i64 0,.int .i64 0,.str [],.int .i64 0,.int .i64 0,.str [],.int .i64 0,.str [],.str [],.nils]
def JG (sc:List PV) (d:Bool):PBox:=.cells 60 (if d then sc else gD)
def J6 (sc:List PV) (acc:List Nat):List PBox:=
 match acc.contains 10,acc.contains 11 with
 | false,false=>[]
 | true,false=>[JG sc (acc.contains 12)]
 | false,true=>[JG sc (acc.contains 13)]
 | true,true=>if LS acc then [JG sc (acc.contains 12),JG sc (acc.contains 13)] else [JG sc (acc.contains 13),JG sc (acc.contains 12)]
def C2 (e:List PV) (bx:List PBox) (i:Int) (ds sc:List PV) (acc:List Nat):St:=⟨Bv e (fun j=>acc.contains j) (FP bx.length i ds sc (LS acc)),bx++J6 sc acc⟩
theorem BB (i j:Nat) (acc:List Nat):(i :: acc).contains j=(j == i || acc.contains j):=by rw [List.contains_cons]
theorem H' {i:Nat} {acc:List Nat} (h:(acc.contains 10 || acc.contains 11)=true):LS (i :: acc)=LS acc:=by
 show (if (acc.contains 10 || acc.contains 11)=true then _ else _)=_;rw [if_pos h]
theorem QC {i:Nat} {acc:List Nat} (h:(acc.contains 10 || acc.contains 11)=false):LS (i :: acc)=(i != 11):=by
 show (if (acc.contains 10 || acc.contains 11)=true then _ else _)=_;rw [h];rfl
theorem Gg {e:List PV} {bx:List PBox} {i:Int} {ds sc:List PV} {acc:List Nat} {j d:Nat} {v:PV} (hj:j < 10) (hD:acc.contains j=false) (hm:∀ f,(j,d,v) ∈ FP bx.length i ds sc f) :
 (⟨setT (C2 e bx i ds sc acc).env d v,(C2 e bx i ds sc acc).bx⟩:St)=C2 e bx i ds sc (j :: acc):=by
 have hd:(fun k=>(j :: acc).contains k)=DQ (fun k=>acc.contains k) j:=by
  funext k;unfold DQ;rw [BB]
 have hb:J6 sc (j :: acc)=J6 sc acc:=by
  unfold J6;have k10:(j :: acc).contains 10=acc.contains 10:=by rw [BB,beq_eq_false_iff_ne.2 (by omega),Aah]
  have k11:(j :: acc).contains 11=acc.contains 11:=by rw [BB,beq_eq_false_iff_ne.2 (by omega),Aah]
  have k12:(j :: acc).contains 12=acc.contains 12:=by rw [BB,beq_eq_false_iff_ne.2 (by omega),Aah]
  have k13:(j :: acc).contains 13=acc.contains 13:=by rw [BB,beq_eq_false_iff_ne.2 (by omega),Aah]
  rw [k10,k11,k12,k13];cases a:acc.contains 10 <;> cases b:acc.contains 11
  · rfl
  · rfl
  · rfl
  · rw [H' (by rw [a] <;> rfl)]
 unfold C2;simp only;rw [hb,hd,B3 e _ j d v hD _ (hm _) (Mk _ _ _ _ _)];cases x:(acc.contains 10 || acc.contains 11) with
 | true=>rw [H' x]
 | false=>
  rw [Aa9] at x;have a10:DQ (fun k=>acc.contains k) j 10=false:=by rw [B8 (by omega)];exact x.1
  have a11:DQ (fun k=>acc.contains k) j 11=false:=by rw [B8 (by omega)];exact x.2
  rw [bz e _ _ _ _ _ (LS acc) (LS (j :: acc)) a10 a11]
theorem sI:Jy CC Aa6 (Aa6.body.getD .skip)=true:=by kernel_rfl
theorem sJ:Be CC Aa6 (Aa6.body.getD .skip)=false:=by kernel_rfl
theorem sK:CC.P.funcs[54]?=some Aa6:=by kernel_rfl
theorem wQ:CL CC (opsOf (Ab Aa6 [1,1,0,1,0,0,1,1,0,0,1,0]))=false:=by kernel_rfl
theorem oH:qO (opsOf (Ab Aa6 [1,1,0,1,0,0,1,1,0,0,1,0]))=true:=by kernel_rfl
theorem dE:(opsOf (Ab Aa6 [1,1,0,1,0,0,1,1,0,0,1,0])).size=14:=by kernel_rfl
theorem dF:zeroCells CC 60=some gD:=by kernel_rfl
theorem lg:tSize CC 60=some 16:=by kernel_rfl
theorem bA:∀ acc:List Nat,acc.contains 11=true->acc.contains 10=false->LS acc=false
 | [],h,_=>by cases h
 | i :: acc,h,h0=>by
  rw [BB,Aaj] at h;rw [BB,Aa9] at h0;cases x:acc.contains 11 with
  | true=>rw [H' (by rw [x,Aae])];exact bA acc x h0.2
  | false=>
   rw [QC (by rw [h0.2,x] <;> rfl)];rw [x] at h;rcases h with h | h
   · rw [<- eq_of_beq h];rfl
   · cases h
theorem bB:∀ acc:List Nat,acc.contains 10=true->acc.contains 11=false->LS acc=true
 | [],h,_=>by cases h
 | i :: acc,h,h0=>by
  rw [BB,Aaj] at h;rw [BB,Aa9] at h0;cases x:acc.contains 10 with
  | true=>rw [H' (by rw [x,Aax])];exact bB acc x h0.2
  | false=>
   rw [QC (by rw [h0.2,x] <;> rfl)];rw [x] at h;rcases h with h | h
   · rw [<- eq_of_beq h];rfl
   · cases h
theorem ND (acc:List Nat) (j:Nat):(fun k=>(j :: acc).contains k)=DQ (fun k=>acc.contains k) j:=by
 funext k;unfold DQ;rw [BB]
theorem oI (e:List PV) (bx:List PBox) (i:Int) (ds sc:List PV) (acc:List Nat) (Xo:acc.contains 10=false) (uD:acc.contains 12=false) :
 C2 e bx i ds sc (10 :: acc)=⟨setT (C2 e bx i ds sc acc).env 6 (.bp (C2 e bx i ds sc acc).bx.length 0),(C2 e bx i ds sc acc).bx++[.cells 60 gD]⟩:=by
 have k11:(10 :: acc).contains 11=acc.contains 11:=by rw [BB];rfl
 have k12:(10 :: acc).contains 12=false:=by rw [BB,uD];rfl
 have k13:(10 :: acc).contains 13=acc.contains 13:=by rw [BB];rfl
 have k10:(10 :: acc).contains 10=true:=by rw [BB];rfl
 unfold C2;simp only;rw [ND];cases x:acc.contains 11 with
 | true=>
  have f0:=bA acc x Xo;have f1:LS (10 :: acc)=false:=by rw [H' (by rw [x,Aae])];exact f0
  have b0:J6 sc acc=[JG sc (acc.contains 13)]:=by unfold J6;rw [Xo,x]
  have b1:J6 sc (10 :: acc)=[JG sc (acc.contains 13),JG sc false]:=by unfold J6;rw [k10,k11,x,k12,k13,f1];rfl
  rw [f0,f1,b0,b1,B3 e _ 10 6 _ Xo _ (by unfold FP;simp) (Mk _ _ _ _ _)];simp only [Aa4,Aad,Aab,JG,Aac,if_false]
 | false=>
  have f1:LS (10 :: acc)=true:=by rw [QC (by rw [Xo,x] <;> rfl)];rfl
  have b0:J6 sc acc=[]:=by unfold J6;rw [Xo,x]
  have b1:J6 sc (10 :: acc)=[JG sc false]:=by unfold J6;rw [k10,k11,x,k12]
  rw [f1,b0,b1,bz e _ _ _ _ _ (LS acc) true Xo x,Aaa,B3 e _ 10 6 _ Xo _ (by unfold FP;simp) (Mk _ _ _ _ _)];simp only [Aa4,Aad,Aab,JG,Aac,if_false]
theorem oJ (e:List PV) (bx:List PBox) (i:Int) (ds sc:List PV) (acc:List Nat) (ib:acc.contains 11=false) (yl:acc.contains 13=false) :
 C2 e bx i ds sc (11 :: acc)=⟨setT (C2 e bx i ds sc acc).env 7 (.bp (C2 e bx i ds sc acc).bx.length 0),(C2 e bx i ds sc acc).bx++[.cells 60 gD]⟩:=by
 have k10:(11 :: acc).contains 10=acc.contains 10:=by rw [BB];rfl
 have k12:(11 :: acc).contains 12=acc.contains 12:=by rw [BB];rfl
 have k13:(11 :: acc).contains 13=false:=by rw [BB,yl];rfl
 have k11:(11 :: acc).contains 11=true:=by rw [BB];rfl
 unfold C2;simp only;rw [ND];cases x:acc.contains 10 with
 | true=>
  have f0:=bB acc x ib;have f1:LS (11 :: acc)=true:=by rw [H' (by rw [x,Aax])];exact f0
  have b0:J6 sc acc=[JG sc (acc.contains 12)]:=by unfold J6;rw [ib,x]
  have b1:J6 sc (11 :: acc)=[JG sc (acc.contains 12),JG sc false]:=by unfold J6;rw [k10,k11,x,k12,k13,f1];rfl
  rw [f0,f1,b0,b1,B3 e _ 11 7 _ ib _ (by unfold FP;simp) (Mk _ _ _ _ _)];simp only [Aa4,Aad,Aab,JG,Aac,if_false]
 | false=>
  have f1:LS (11 :: acc)=false:=by rw [QC (by rw [ib,x] <;> rfl)];rfl
  have b0:J6 sc acc=[]:=by unfold J6;rw [ib,x]
  have b1:J6 sc (11 :: acc)=[JG sc false]:=by unfold J6;rw [k10,k11,x,k13]
  rw [f1,b0,b1,bz e _ _ _ _ _ (LS acc) false x ib,Aaa,B3 e _ 11 7 _ ib _ (by unfold FP;simp) (Mk _ _ _ _ _)];simp only [Aa4,Aad,Aab,JG,Aac,if_false]
theorem IJ (bx r:List PBox) (t:TypeId) (cs vs:List PV) (h:vs.length=cs.length) (h1:vs.all PV.one=true) (id:Nat) (hid:id=bx.length):BK (bx++.cells t cs :: r) id 0 vs=some (bx++.cells t vs :: r):=by
 subst hid;unfold BK;rw [List.getElem?_append_right (Aag _),Aay];simp only [Aa0];rw [if_pos ⟨by omega,h1⟩,List.set_append_right _ _ (Aag _),Aay]
 have hl:lay cs 0 vs=vs:=by
  unfold lay;rw [List.take_zero,Aab,List.drop_eq_nil_of_le (by omega),Aaa]
 rw [hl];rfl
theorem zJ (bx:List PBox) (sc:List PV) (hl:sc.length=16) (h1:sc.all PV.one=true) (acc:List Nat) (Xo:acc.contains 10=true) (uD:acc.contains 12=false) :
 BK (bx++J6 sc acc) (if LS acc then bx.length else bx.length+1) 0 sc=some (bx++J6 sc (12 :: acc)):=by
 have k10:(12 :: acc).contains 10=true:=by rw [BB,Xo];rfl
 have k11:(12 :: acc).contains 11=acc.contains 11:=by rw [BB];rfl
 have k13:(12 :: acc).contains 13=acc.contains 13:=by rw [BB];rfl
 have k12:(12 :: acc).contains 12=true:=by rw [BB];rfl
 have kf:LS (12 :: acc)=LS acc:=H' (by rw [Xo] <;> rfl);have hz:sc.length=gD.length:=by rw [hl];rfl
 unfold J6;rw [k10,k11,k12,k13,kf,Xo,uD];cases x:acc.contains 11 with
 | false=>
  rw [bB acc Xo x];exact IJ bx [] _ gD sc hz h1 _ rfl
 | true=>
  cases y:LS acc with
  | true=>exact IJ bx [JG sc (acc.contains 13)] _ gD sc hz h1 _ rfl
  | false=>
   have:=IJ (bx++[JG sc (acc.contains 13)]) [] 60 gD sc hz h1 (bx.length+1) (by simp);simpa [JG] using this
theorem zL (bx:List PBox) (sc:List PV) (hl:sc.length=16) (h1:sc.all PV.one=true) (acc:List Nat) (ib:acc.contains 11=true) (yl:acc.contains 13=false) :
 BK (bx++J6 sc acc) (if LS acc then bx.length+1 else bx.length) 0 sc=some (bx++J6 sc (13 :: acc)):=by
 have k10:(13 :: acc).contains 10=acc.contains 10:=by rw [BB];rfl
 have k11:(13 :: acc).contains 11=true:=by rw [BB,ib];rfl
 have k12:(13 :: acc).contains 12=acc.contains 12:=by rw [BB];rfl
 have k13:(13 :: acc).contains 13=true:=by rw [BB];rfl
 have kf:LS (13 :: acc)=LS acc:=H' (by rw [ib,Aae]);have hz:sc.length=gD.length:=by rw [hl];rfl
 unfold J6;rw [k10,k11,k12,k13,kf,ib,yl];cases x:acc.contains 10 with
 | false=>
  rw [bA acc ib x];exact IJ bx [] _ gD sc hz h1 _ rfl
 | true=>
  cases y:LS acc with
  | false=>exact IJ bx [JG sc (acc.contains 12)] _ gD sc hz h1 _ rfl
  | true=>
   have:=IJ (bx++[JG sc (acc.contains 12)]) [] 60 gD sc hz h1 (bx.length+1) (by simp);simpa [JG] using this
def Hu (c0 c1 c2 c3 c4 c5 c6 c7 c8 c9 c10 c11 c12 c13:PV) (ds:List PV):PBox:=.cells 32 [c0,c1,c2,c3,c4,c5,c6,c7,c8,c9,c10,c11,c12,c13,.sl ds]
theorem lh (c0 c1 c2 c3 c4 c5 c6 c7 c8 c9 c10 c11 c12 c13:PV) (ds sc:List PV) (rest:List PBox) (e:List PV) (i:Nat) (hx:ds[i]?=some (.agg sc)) (hl:sc.length=16) (eC:sc.map PV.ro=sc) (h1:sc.all PV.one=true)
 (h2:getT e 2=.bp 0 0) (h3:getT e 3=.bp 1 0) (h5:getT e 5=.int .i64 i) :
 V0 CC (Ad CC) (opsOf (Ab Aa6 [1,1,0,1,0,0,1,1,0,0,1,0])) (C2 e (Hu c0 c1 c2 c3 c4 c5 c6 c7 c8 c9 c10 c11 c12 c13 ds :: Hu c0 c1 c2 c3 c4 c5 c6 c7 c8 c9 c10 c11 c12 c13 ds :: rest) i ds sc):=by
 intro acc j op Bc hD Gz Mw
 have hj:j < 14:=by
  have:=(Array.getElem?_eq_some_iff.1 Bc).1;rw [dE] at this;exact this
 have QL:sc.take 16=sc:=List.take_of_length_le (by omega);have hcl10:acc.contains 12=true->acc.contains 10=true:=fun h=>Mw 12 _ (by rfl) h ⟨10,.data⟩ (by simp [opsOf,Ab,Ac,Aa6]) rfl;have hcl11:acc.contains 13=true->acc.contains 11=true:=fun h=>Mw 13 _ (by rfl) h ⟨11,.data⟩ (by simp [opsOf,Ab,Ac,Aa6]) rfl;have D3:¬ ((i:Int) < 0):=by omega
 generalize J8:(Hu c0 c1 c2 c3 c4 c5 c6 c7 c8 c9 c10 c11 c12 c13 ds :: Hu c0 c1 c2 c3 c4 c5 c6 c7 c8 c9 c10 c11 c12 c13 ds :: rest)=bx;have Jw:=Mk bx.length i ds sc (LS acc);have z2:getT (C2 e bx i ds sc acc).env 2=.bp 0 0:=by unfold C2;rw [G8 e _ 2 _ (by unfold FP;simp)];exact h2
 have z3:getT (C2 e bx i ds sc acc).env 3=.bp 1 0:=by unfold C2;rw [G8 e _ 3 _ (by unfold FP;simp)];exact h3
 have z5:getT (C2 e bx i ds sc acc).env 5=.int .i64 i:=by unfold C2;rw [G8 e _ 5 _ (by unfold FP;simp)];exact h5
 have IW:∃ Qq9,(C2 e bx i ds sc acc).bx=Hu c0 c1 c2 c3 c4 c5 c6 c7 c8 c9 c10 c11 c12 c13 ds :: Hu c0 c1 c2 c3 c4 c5 c6 c7 c8 c9 c10 c11 c12 c13 ds :: Qq9:=by rw [<- J8];exact ⟨_,rfl⟩
 by_cases e0:j=0
 · subst e0
   simp only [opsOf,Ab,Ac,Aa6,Aa7,Aa3,Aa2,Aa0] at Bc;injection Bc with Bc
   subst Bc;refine ⟨rfl,fun al=>?_⟩;rw [<- Gg (j:=0) (d:=51) (v:=.bp 0 14) (by omega) hD (fun f=>by unfold FP;simp)];obtain ⟨Qq9,IW⟩:=IW;rw [show C2 e bx i ds sc acc=⟨(C2 e bx i ds sc acc).env,(C2 e bx i ds sc acc).bx⟩ from rfl,IW];generalize (C2 e bx i ds sc acc).env=E at *;clear IW J8;unfold Hu;rw [<- NS];simp only [S9,I6,seval,CX,z2,z3,z5,hx,hl,QL,eC,D3];exact ⟨_,rfl⟩
 by_cases e1:j=1
 · subst e1
   simp only [opsOf,Ab,Ac,Aa6,Aa7,Aa3,Aa2,Aa0] at Bc;injection Bc with Bc
   subst Bc;refine ⟨rfl,fun al=>?_⟩;have d0:acc.contains 0=true:=Gz ⟨0,.data⟩ (by simp) rfl;have z51:getT (C2 e bx i ds sc acc).env 51=.bp 0 14:=BU e _ 0 51 _ d0 _ (by unfold FP;simp) Jw;rw [<- Gg (j:=1) (d:=52) (v:=.sl ds) (by omega) hD (fun f=>by unfold FP;simp)];obtain ⟨Qq9,IW⟩:=IW;rw [show C2 e bx i ds sc acc=⟨(C2 e bx i ds sc acc).env,(C2 e bx i ds sc acc).bx⟩ from rfl,IW];generalize (C2 e bx i ds sc acc).env=E at *;clear IW J8;unfold Hu;rw [<- NS];simp only [S9,I6,seval,CX,z2,z3,z5,hx,hl,QL,eC,D3,z51];exact ⟨_,rfl⟩
 by_cases e2:j=2
 · subst e2
   simp only [opsOf,Ab,Ac,Aa6,Aa7,Aa3,Aa2,Aa0] at Bc;injection Bc with Bc
   subst Bc;refine ⟨rfl,fun al=>?_⟩;rw [<- Gg (j:=2) (d:=53) (v:=.int .i64 i) (by omega) hD (fun f=>by unfold FP;simp)];obtain ⟨Qq9,IW⟩:=IW;rw [show C2 e bx i ds sc acc=⟨(C2 e bx i ds sc acc).env,(C2 e bx i ds sc acc).bx⟩ from rfl,IW];generalize (C2 e bx i ds sc acc).env=E at *;clear IW J8;unfold Hu;rw [<- NS];simp only [S9,I6,seval,CX,z2,z3,z5,hx,hl,QL,eC,D3];exact ⟨_,rfl⟩
 by_cases e3:j=3
 · subst e3
   simp only [opsOf,Ab,Ac,Aa6,Aa7,Aa3,Aa2,Aa0] at Bc;injection Bc with Bc
   subst Bc;refine ⟨rfl,fun al=>?_⟩;have d1:acc.contains 1=true:=Gz ⟨1,.data⟩ (by simp) rfl;have z52:getT (C2 e bx i ds sc acc).env 52=.sl ds:=BU e _ 1 52 _ d1 _ (by unfold FP;simp) Jw;have d2:acc.contains 2=true:=Gz ⟨2,.data⟩ (by simp) rfl;have z53:getT (C2 e bx i ds sc acc).env 53=.int .i64 i:=BU e _ 2 53 _ d2 _ (by unfold FP;simp) Jw;rw [<- Gg (j:=3) (d:=54) (v:=.ip sc) (by omega) hD (fun f=>by unfold FP;simp)];obtain ⟨Qq9,IW⟩:=IW;rw [show C2 e bx i ds sc acc=⟨(C2 e bx i ds sc acc).env,(C2 e bx i ds sc acc).bx⟩ from rfl,IW];generalize (C2 e bx i ds sc acc).env=E at *;clear IW J8;unfold Hu;rw [<- NS];simp only [S9,I6,seval,CX,z2,z3,z5,hx,hl,QL,eC,D3,z52,z53];exact ⟨_,rfl⟩
 by_cases e4:j=4
 · subst e4
   simp only [opsOf,Ab,Ac,Aa6,Aa7,Aa3,Aa2,Aa0] at Bc;injection Bc with Bc
   subst Bc;refine ⟨rfl,fun al=>?_⟩;have d3:acc.contains 3=true:=Gz ⟨3,.data⟩ (by simp) rfl;have z54:getT (C2 e bx i ds sc acc).env 54=.ip sc:=BU e _ 3 54 _ d3 _ (by unfold FP;simp) Jw;rw [<- Gg (j:=4) (d:=55) (v:=.agg sc) (by omega) hD (fun f=>by unfold FP;simp)];obtain ⟨Qq9,IW⟩:=IW;rw [show C2 e bx i ds sc acc=⟨(C2 e bx i ds sc acc).env,(C2 e bx i ds sc acc).bx⟩ from rfl,IW];generalize (C2 e bx i ds sc acc).env=E at *;clear IW J8;unfold Hu;rw [<- NS];simp only [S9,I6,seval,CX,z2,z3,z5,hx,hl,QL,eC,D3,z54];exact ⟨_,rfl⟩
 by_cases e5:j=5
 · subst e5
   simp only [opsOf,Ab,Ac,Aa6,Aa7,Aa3,Aa2,Aa0] at Bc;injection Bc with Bc
   subst Bc;refine ⟨rfl,fun al=>?_⟩;rw [<- Gg (j:=5) (d:=56) (v:=.bp 1 14) (by omega) hD (fun f=>by unfold FP;simp)];obtain ⟨Qq9,IW⟩:=IW;rw [show C2 e bx i ds sc acc=⟨(C2 e bx i ds sc acc).env,(C2 e bx i ds sc acc).bx⟩ from rfl,IW];generalize (C2 e bx i ds sc acc).env=E at *;clear IW J8;unfold Hu;rw [<- NS];simp only [S9,I6,seval,CX,z2,z3,z5,hx,hl,QL,eC,D3];exact ⟨_,rfl⟩
 by_cases e6:j=6
 · subst e6
   simp only [opsOf,Ab,Ac,Aa6,Aa7,Aa3,Aa2,Aa0] at Bc;injection Bc with Bc
   subst Bc;refine ⟨rfl,fun al=>?_⟩;have d5:acc.contains 5=true:=Gz ⟨5,.data⟩ (by simp) rfl;have z56:getT (C2 e bx i ds sc acc).env 56=.bp 1 14:=BU e _ 5 56 _ d5 _ (by unfold FP;simp) Jw;rw [<- Gg (j:=6) (d:=57) (v:=.sl ds) (by omega) hD (fun f=>by unfold FP;simp)];obtain ⟨Qq9,IW⟩:=IW;rw [show C2 e bx i ds sc acc=⟨(C2 e bx i ds sc acc).env,(C2 e bx i ds sc acc).bx⟩ from rfl,IW];generalize (C2 e bx i ds sc acc).env=E at *;clear IW J8;unfold Hu;rw [<- NS];simp only [S9,I6,seval,CX,z2,z3,z5,hx,hl,QL,eC,D3,z56];exact ⟨_,rfl⟩
 by_cases e7:j=7
 · subst e7
   simp only [opsOf,Ab,Ac,Aa6,Aa7,Aa3,Aa2,Aa0] at Bc;injection Bc with Bc
   subst Bc;refine ⟨rfl,fun al=>?_⟩;rw [<- Gg (j:=7) (d:=58) (v:=.int .i64 i) (by omega) hD (fun f=>by unfold FP;simp)];obtain ⟨Qq9,IW⟩:=IW;rw [show C2 e bx i ds sc acc=⟨(C2 e bx i ds sc acc).env,(C2 e bx i ds sc acc).bx⟩ from rfl,IW];generalize (C2 e bx i ds sc acc).env=E at *;clear IW J8;unfold Hu;rw [<- NS];simp only [S9,I6,seval,CX,z2,z3,z5,hx,hl,QL,eC,D3];exact ⟨_,rfl⟩
 by_cases e8:j=8
 · subst e8
   simp only [opsOf,Ab,Ac,Aa6,Aa7,Aa3,Aa2,Aa0] at Bc;injection Bc with Bc
   subst Bc;refine ⟨rfl,fun al=>?_⟩;have d6:acc.contains 6=true:=Gz ⟨6,.data⟩ (by simp) rfl;have z57:getT (C2 e bx i ds sc acc).env 57=.sl ds:=BU e _ 6 57 _ d6 _ (by unfold FP;simp) Jw;have d7:acc.contains 7=true:=Gz ⟨7,.data⟩ (by simp) rfl;have z58:getT (C2 e bx i ds sc acc).env 58=.int .i64 i:=BU e _ 7 58 _ d7 _ (by unfold FP;simp) Jw;rw [<- Gg (j:=8) (d:=59) (v:=.ip sc) (by omega) hD (fun f=>by unfold FP;simp)];obtain ⟨Qq9,IW⟩:=IW;rw [show C2 e bx i ds sc acc=⟨(C2 e bx i ds sc acc).env,(C2 e bx i ds sc acc).bx⟩ from rfl,IW];generalize (C2 e bx i ds sc acc).env=E at *;clear IW J8;unfold Hu;rw [<- NS];simp only [S9,I6,seval,CX,z2,z3,z5,hx,hl,QL,eC,D3,z57,z58];exact ⟨_,rfl⟩
 by_cases e9:j=9
 · subst e9
   simp only [opsOf,Ab,Ac,Aa6,Aa7,Aa3,Aa2,Aa0] at Bc;injection Bc with Bc
   subst Bc;refine ⟨rfl,fun al=>?_⟩;have d8:acc.contains 8=true:=Gz ⟨8,.data⟩ (by simp) rfl;have z59:getT (C2 e bx i ds sc acc).env 59=.ip sc:=BU e _ 8 59 _ d8 _ (by unfold FP;simp) Jw;rw [<- Gg (j:=9) (d:=60) (v:=.agg sc) (by omega) hD (fun f=>by unfold FP;simp)];obtain ⟨Qq9,IW⟩:=IW;rw [show C2 e bx i ds sc acc=⟨(C2 e bx i ds sc acc).env,(C2 e bx i ds sc acc).bx⟩ from rfl,IW];generalize (C2 e bx i ds sc acc).env=E at *;clear IW J8;unfold Hu;rw [<- NS];simp only [S9,I6,seval,CX,z2,z3,z5,hx,hl,QL,eC,D3,z59];exact ⟨_,rfl⟩
 by_cases e10:j=10
 · subst e10
   simp only [opsOf,Ab,Ac,Aa6,Aa7,Aa3,Aa2,Aa0] at Bc;injection Bc with Bc
   subst Bc;refine ⟨rfl,fun al=>?_⟩;rw [oI e bx i ds sc acc hD (by cases x:acc.contains 12 with | false=>rfl | true=>rw [hcl10 x] at hD;cases hD)];have hz:=dF;generalize C2 e bx i ds sc acc=st at *;rw [<- NS];simp only [S9,I6,seval,CX,hz];exact ⟨_,rfl⟩
 by_cases e11:j=11
 · subst e11
   simp only [opsOf,Ab,Ac,Aa6,Aa7,Aa3,Aa2,Aa0] at Bc;injection Bc with Bc
   subst Bc;refine ⟨rfl,fun al=>?_⟩;rw [oJ e bx i ds sc acc hD (by cases x:acc.contains 13 with | false=>rfl | true=>rw [hcl11 x] at hD;cases hD)];have hz:=dF;generalize C2 e bx i ds sc acc=st at *;rw [<- NS];simp only [S9,I6,seval,CX,hz];exact ⟨_,rfl⟩
 by_cases e12:j=12
 · subst e12
   simp only [opsOf,Ab,Ac,Aa6,Aa7,Aa3,Aa2,Aa0] at Bc;injection Bc with Bc
   subst Bc;refine ⟨rfl,fun al=>?_⟩;have d10:acc.contains 10=true:=Gz ⟨10,.data⟩ (by simp) rfl;have d4:acc.contains 4=true:=Gz ⟨4,.data⟩ (by simp) rfl;have z6:getT (C2 e bx i ds sc acc).env 6=.bp (if LS acc then bx.length else bx.length+1) 0:=BU e _ 10 6 _ d10 _ (by unfold FP;simp) Jw;have z55:getT (C2 e bx i ds sc acc).env 55=.agg sc:=BU e _ 4 55 _ d4 _ (by unfold FP;simp) Jw;have Ez:=zJ bx sc hl h1 acc d10 hD;have hn:C2 e bx i ds sc (12 :: acc)=⟨(C2 e bx i ds sc acc).env,bx++J6 sc (12 :: acc)⟩:=by unfold C2;simp only;rw [ND,H' (by first | (rw [d10] <;> rfl) | (rw [d10,Aae])),G7 e _ 12 _ (by unfold FP;simp)]
   have IV:=lg;rw [hn,show C2 e bx i ds sc acc=⟨(C2 e bx i ds sc acc).env,bx++J6 sc acc⟩ from rfl];generalize (C2 e bx i ds sc acc).env=E at *;generalize (if LS acc then bx.length else bx.length+1)=off at *;generalize bx++J6 sc acc=B at *;generalize bx++J6 sc (12 :: acc)=B2 at *;rw [<- NS];simp only [S8,I6,seval,I4,laid,z6,z55,Ez,IV,hl,eC];exact ⟨_,rfl⟩
 by_cases e13:j=13
 · subst e13
   simp only [opsOf,Ab,Ac,Aa6,Aa7,Aa3,Aa2,Aa0] at Bc;injection Bc with Bc
   subst Bc;refine ⟨rfl,fun al=>?_⟩;have d11:acc.contains 11=true:=Gz ⟨11,.data⟩ (by simp) rfl;have d9:acc.contains 9=true:=Gz ⟨9,.data⟩ (by simp) rfl;have z7:getT (C2 e bx i ds sc acc).env 7=.bp (if LS acc then bx.length+1 else bx.length) 0:=BU e _ 11 7 _ d11 _ (by unfold FP;simp) Jw;have z60:getT (C2 e bx i ds sc acc).env 60=.agg sc:=BU e _ 9 60 _ d9 _ (by unfold FP;simp) Jw;have Ez:=zL bx sc hl h1 acc d11 hD;have hn:C2 e bx i ds sc (13 :: acc)=⟨(C2 e bx i ds sc acc).env,bx++J6 sc (13 :: acc)⟩:=by unfold C2;simp only;rw [ND,H' (by first | (rw [d11] <;> rfl) | (rw [d11,Aae])),G7 e _ 13 _ (by unfold FP;simp)]
   have IV:=lg;rw [hn,show C2 e bx i ds sc acc=⟨(C2 e bx i ds sc acc).env,bx++J6 sc acc⟩ from rfl];generalize (C2 e bx i ds sc acc).env=E at *;generalize (if LS acc then bx.length+1 else bx.length)=off at *;generalize bx++J6 sc acc=B at *;generalize bx++J6 sc (13 :: acc)=B2 at *;rw [<- NS];simp only [S8,I6,seval,I4,laid,z7,z60,Ez,IV,hl,eC];exact ⟨_,rfl⟩
 omega
theorem Vz {p:UInt8->Bool}:∀ (w R:List UInt8),(∀ b ∈ w,p b=true)->(∀ c r,R=c :: r->p c=false)->(w++R).takeWhile p=w
 | [],[],_,_=>rfl
 | [],c :: r,_,h=>by
  show (c :: r).takeWhile p=[];rw [Aap,h c r rfl];rfl
 | b :: w,R,h1,h2=>by
  rw [Aad,Aap,h1 b (by simp),if_pos rfl,Vz w R (fun x hx=>h1 x (by simp [hx])) h2]
theorem VA {p:Nat->Bool} {t:List UInt8} {j:Nat} {w R:List UInt8} (h:t.drop j=w++R) (h1:∀ b ∈ w,p b.toNat=true) (h2:∀ c r,R=c :: r->p c.toNat=false):C6 p t j=j+w.length:=by
 unfold C6;rw [h,Vz w R h1 h2]
theorem IK {t:List UInt8} {j:Nat} {w:List UInt8} (h:t.drop j=w) (hw:w≠[]):t.length=j+w.length/\j < t.length:=by
 have h1:(t.drop j).length=w.length:=by rw [h]
 rw [Aat] at h1;have h2:0 < w.length:=List.length_pos_iff.2 hw;omega
theorem FB {t:List UInt8} {j:Nat} {w R:List UInt8} (h:t.drop j=w++R):(t.take (j+w.length)).drop j=w:=by
 rw [List.drop_take,Nat.add_sub_cancel_left,h,List.take_left]
theorem Ml {t:List UInt8} {j:Nat} {c:UInt8} {r:List UInt8} (h:t.drop j=c :: r):Ca t j=c.toNat:=by
 have:=Ko t j 0;rw [Aan,h] at this;exact this
def sL:List UInt8->Nat
 | []=>0
 | d :: _=>d.toNat
theorem dG {t:List UInt8} {j:Nat} {c:UInt8} {R:List UInt8} (h:t.drop j=c :: R):Ca t (j+1)=sL R:=by
 have:=Ko t j 1;rw [h] at this;rw [this];cases R <;> rfl
theorem oK {s:List UInt8} {i:Nat} {c:UInt8} {r:List UInt8} (h:s.drop i=BL c++r):eQ s i=eQ s (i+(BL c).length):=by
 have hlen:(s.drop i).length=(BL c++r).length:=by rw [h]
 rw [Aat,Aa1] at hlen;have a0:=Ko s i 0;have a2:=Ko s i 2;have a3:=Ko s i 3;rw [h] at a0 a2 a3;rw [Aan] at a0;rcases I8 c with ⟨h1,h2⟩ | ⟨h1,h2,h3⟩ | ⟨x,y,h1,h2,h3,h4⟩
 · rw [h2] at a0 hlen |-
   have a0:Ca s i=92:=a0;have hlen:s.length - i=2+r.length:=hlen;rw [Vc,a0,if_pos ⟨by omega,by decide⟩,if_pos rfl];rfl
 · rw [h3] at a0 hlen |-
   have a0:Ca s i=c.toNat:=a0;have hlen:s.length - i=1+r.length:=hlen;rw [Vc,a0,if_pos ⟨by omega,h1⟩,if_neg h2];rfl
 · rw [h1] at a0 a2 a3 hlen |-
   have a0:Ca s i=92:=a0;have a2:Ca s (i+2)=x.toNat:=a2;have a3:Ca s (i+3)=y.toNat:=a3;have hlen:s.length - i=4+r.length:=hlen
   have ne:∀ z:UInt8,0<=F5 z->z.toNat≠34/\z.toNat≠92:=fun z hz=>by
    unfold F5 nM at hz;split at hz
    · omega
    · split at hz
      · omega
      · omega
   have nx:=ne x h2;have ny:=ne y h3;rw [Vc,a0,if_pos ⟨by omega,by decide⟩,if_pos rfl,Vc,a2,if_pos ⟨by omega,nx.1⟩,if_neg nx.2,show i+2+1=i+3 from rfl,Vc,a3,if_pos ⟨by omega,ny.1⟩,if_neg ny.2];rfl
theorem Y4 (s:List UInt8):∀ (t:List UInt8) (i:Nat) (r:List UInt8),s.drop i=t.flatMap BL++34 :: r->eQ s i=i+(t.flatMap BL).length
 | [],i,r,h=>by
  have h:s.drop i=34 :: r:=h;rw [Vc,Ml h,if_neg (fun h=>h.2 rfl)];rfl
 | c :: t,i,r,h=>by
  rw [Aaq,Aa4] at h;rw [oK h,Y4 s t (i+(BL c).length) r (by rw [<- Aal,h,Aak]),Aaq,Aa1,Aam]
theorem wR {n:Nat} (h:sm n=true):pt n=true:=by unfold pt;rw [h];rfl
theorem sM:∀ n:_root_.Fin 256,ql n.val=true->sm n.val=false/\dg n.val=false/\n.val≠34/\n.val≠32/\n.val≠9/\n.val≠10:=by decide +kernel
theorem sO:∀ n:_root_.Fin 256,qj n.val=true->sm n.val=false/\dg n.val=false/\n.val≠34/\n.val≠32/\n.val≠9/\n.val≠10/\n.val≠35:=by decide +kernel
theorem wS:∀ n:_root_.Fin 256,sm n.val=true->n.val≠32/\n.val≠9/\n.val≠10/\n.val≠35:=by decide +kernel
def bk:List UInt8->Bool
 | []=>true
 | c :: _=>!pt c.toNat && c != 61
theorem sP {a b:List UInt8} (ha:bk a=true) (hb:bk b=true):bk (a++b)=true:=by
 cases a with
 | nil=>exact hb
 | cons c r=>exact ha
theorem lj {t:List UInt8} (h:bk t=true):sL t≠61/\∀ c r,t=c :: r->pt c.toNat=false:=by
 cases t with
 | nil=>exact ⟨by decide,fun _ _ h=>by cases h⟩
 | cons c r=>
  unfold bk at h;rw [Aa8,Aar,bne_iff_ne] at h;refine ⟨fun h2=>h.2 ?_,fun d q e=>?_⟩
  · rw [<- Aas];exact h2
  · injection e with e1 e2;subst e1;exact h.1
theorem wU {n:Nat} (h:pt n=false):dg n=false:=by
 unfold pt at h;rw [Aa9,Aa9,Aa9] at h;exact h.1.1.2
def kt (t:Tk):Nat×List UInt8:=(t.1,t.2.1)
def TK (s:List UInt8) (i:Nat) (acc:List Tk):List Tk×Nat×Int:=tk s (sk s i) acc
def Lo (w:List UInt8) (ts:List (Nat×List UInt8)):Prop:=∀ (p t:List UInt8) (acc:List Tk),(TK (p++(w++t)) p.length acc).2.2=0 ->
 ∃ us:List Tk,us.map kt=ts/\TK (p++(w++t)) p.length acc=TK (p++(w++t)) (p.length+w.length) (acc++us)
def Lx (w:List UInt8) (ts:List (Nat×List UInt8)):Prop:=∀ (p t:List UInt8) (acc:List Tk),bk t=true->(TK (p++(w++t)) p.length acc).2.2=0 ->
 ∃ us:List Tk,us.map kt=ts/\TK (p++(w++t)) p.length acc=TK (p++(w++t)) (p.length+w.length) (acc++us)
theorem Lo.lx {w ts} (h:Lo w ts):Lx w ts:=fun p t acc _ h0=>h p t acc h0
theorem ll:Lo [] []:=fun p t acc _=>⟨[],rfl,by rw [Aaa];rfl⟩
theorem Da {a b A B} (ha:Lx a A) (hb:Lx b B) (h:bk b=true):Lx (a++b) (A++B):=fun p t acc ht h0=>by
 have e:p++(a++b++t)=p++(a++(b++t)):=by rw [Aa4 a]
 rw [e] at h0 |-;obtain ⟨us,e1,e2⟩:=ha p (b++t) acc (sP h ht) h0;rw [e2] at h0 |-;rw [<- Aa4,<- Aa1] at h0 |-;obtain ⟨vs,e3,e4⟩:=hb (p++a) t (acc++us) ht h0;exact ⟨us++vs,by rw [Aau,e1,e3],by rw [e4,Aa4 acc,Aa1,Aa1,Aam]⟩
theorem Ee {a b A B} (ha:Lo a A) (hb:Lx b B):Lx (a++b) (A++B):=fun p t acc ht h0=>by
 have e:p++(a++b++t)=p++(a++(b++t)):=by rw [Aa4 a]
 rw [e] at h0 |-;obtain ⟨us,e1,e2⟩:=ha p (b++t) acc h0;rw [e2] at h0 |-;rw [<- Aa4,<- Aa1] at h0 |-;obtain ⟨vs,e3,e4⟩:=hb (p++a) t (acc++us) ht h0;exact ⟨us++vs,by rw [Aau,e1,e3],by rw [e4,Aa4 acc,Aa1,Aa1,Aam]⟩
theorem IL (p w t:List UInt8):(p++(w++t)).drop p.length=w++t:=Aak
theorem SL {s:List UInt8} {j:Nat} {acc:List Tk} {k:Nat} {u:Tk} (hj:j < s.length) (hs:sk s j=j) (ho:FJ s j=.inl (u,k)) (h0:(TK s j acc).2.2=0):TK s j acc=TK s k (acc++[u]):=by
 unfold TK at h0 |-;rw [hs,RH _ (by omega),if_pos hj] at h0 |-;by_cases c:acc.length=4000
 · rw [if_pos c] at h0;cases h0
 · rw [if_neg c,ho]
theorem sQ {s:List UInt8} {j:Nat} {acc:List Tk} {e:Int} (hj:j < s.length) (hs:sk s j=j) (ho:FJ s j=.inr e):(TK s j acc).2.2≠0:=by
 have he:=RE ho;unfold TK;rw [hs,RH _ (by omega),if_pos hj];by_cases c:acc.length=4000
 · rw [if_pos c];exact (by decide:(3:Int)≠0)
 · rw [if_neg c,ho]
   show e≠0;omega
theorem Y5 {t:List UInt8} {j n:Nat} (hl:j < t.length) (hn:Ca t j=n) (h1:n≠32) (h2:n≠9) (h3:n≠10) (h4:¬ (n=35/\dg (Ca t (j+1))=false)):sk t j=j:=by
 rw [LM (by omega),if_pos hl,hn,if_neg (by omega),if_neg h4]
theorem Gn (t:List UInt8) (j:Nat):FJ t j=if sm (Ca t j) then .inl ((1,(t.take (C6 pt t j)).drop j,j),C6 pt t j)
 else if dg (Ca t j) then (match L7 t j with
  | some k=>.inl ((2,(t.take k).drop j,j),k)
  | none=>.inr 2)
 else if Ca t j=34 then (match Od t j with
  | some (u,k)=>.inl ((3,u,j),k)
  | none=>.inr 4)
 else if DF t j=0 then .inr 12
 else .inl ((4,(t.take (j+DF t j)).drop j,j),j+DF t j):=rfl
def Pj:List UInt8->Bool
 | []=>false
 | c :: r=>sm c.toNat && r.all fun b=>pt b.toNat
theorem CE {w:List UInt8} (h:Pj w=true):Lx w [(1,w)]:=fun p t acc ht h0=>by
 have hd:=IL p w t;cases w with
 | nil=>cases h
 | cons c r=>
  unfold Pj at h;rw [Aa8,Aai] at h;have hl:=IK hd (by simp);have e1:Ca (p++(c :: r++t)) p.length=c.toNat:=Ml hd
  have BW:=VA (p:=pt) hd (fun b hb=>by
   rcases List.mem_cons.1 hb with rfl | hb
   · exact wR h.1
   · exact h.2 b hb) (lj ht).2
  have n1:=wS ⟨c.toNat,Aaf c⟩ h.1;have p8:=FB hd;generalize p++(c :: r++t)=s at *
  have ho:FJ s p.length=.inl ((1,c :: r,p.length),p.length+(c :: r).length):=by
   rw [Gn,e1,if_pos h.1,BW,p8]
  exact ⟨[(1,c :: r,p.length)],rfl,SL hl.2 (Y5 hl.2 e1 n1.1 n1.2.1 n1.2.2.1 (fun h=>n1.2.2.2 h.1)) ho h0⟩
def oL (w:List UInt8):Bool:=!w.isEmpty && w.all fun b=>dg b.toNat
theorem Jr {w:List UInt8} (h:oL w=true):Lx w [(2,w)]:=fun p t acc ht h0=>by
 have hd:=IL p w t;cases w with
 | nil=>cases h
 | cons c r=>
  unfold oL at h;rw [Aa8,Aai] at h;have hc:=h.2 c (by simp);have hl:=IK hd (by simp);have e1:Ca (p++(c :: r++t)) p.length=c.toNat:=Ml hd;have BW:=VA (p:=dg) hd h.2 (fun c q e=>wU ((lj ht).2 c q e));have n1:=jo ⟨c.toNat,Aaf c⟩ hc;have p8:=FB hd;generalize p++(c :: r++t)=s at *;have hs:=Y5 hl.2 e1 n1.2.2.1 n1.2.2.2.1 n1.2.2.2.2.1 (fun h=>n1.2.2.2.2.2 h.1);cases hn:L7 s p.length with
  | none=>
   have ho:FJ s p.length=.inr 2:=by rw [Gn,e1,n1.1,if_neg (by simp),if_pos hc,hn]
   exact absurd h0 (sQ hl.2 hs ho)
  | some k=>
   have hk:k=p.length+(c :: r).length:=by
    unfold L7 at hn;obtain ⟨v,_,hv⟩:=Option.map_eq_some_iff.1 hn;rw [<- hv,BW]
   subst hk
   have ho:FJ s p.length=.inl ((2,c :: r,p.length),p.length+(c :: r).length):=by
    rw [Gn,e1,n1.1,if_neg (by simp),if_pos hc,hn];simp only;rw [p8]
   exact ⟨[(2,c :: r,p.length)],rfl,SL hl.2 hs ho h0⟩
theorem lq {w:List UInt8} (uR:w.length<=60):Lo (BC w) [(3,w)]:=fun p t acc h0=>by
 have hd:=IL p (BC w) t;have e0:(p++(BC w++t)).drop p.length=34 :: (w.flatMap BL++34 :: t):=by rw [hd];unfold BC;simp
 have hl:=IK e0 (by simp);have e1:Ca (p++(BC w++t)) p.length=34:=Ml e0;have p8:=FB hd;generalize p++(BC w++t)=s at *;have e2:s.drop (p.length+1)=w.flatMap BL++34 :: t:=by rw [<- Aal,e0];rfl
 have hq:=Y4 s w (p.length+1) t e2;have hql:=EE w
 have hlen:s.length=p.length+(1+((w.flatMap BL).length+(1+t.length))):=by
  rw [hl.1,Aa5,Aa1,Aa5];omega
 have pV:Od s p.length=some (w,p.length+(BC w).length):=by
  have hd:Od s p.length=if s.length<=eQ s (p.length+1) then none else if (Xr ((s.take (eQ s (p.length+1)+1)).drop p.length)).2≠0 then none else some ((Xr ((s.take (eQ s (p.length+1)+1)).drop p.length)).1,eQ s (p.length+1)+1):=rfl
  rw [hd,hq,show p.length+1+(w.flatMap BL).length+1=p.length+(BC w).length from by omega,p8,U9,if_neg (by omega:¬ w.length > 60),if_neg (by omega),if_neg (by simp)]
 have ho:FJ s p.length=.inl ((3,w,p.length),p.length+(BC w).length):=by
  rw [Gn,e1,if_neg (by decide),if_neg (by decide),if_pos rfl,pV]
 exact ⟨[(3,w,p.length)],rfl,SL hl.2 (Y5 hl.2 e1 (by decide) (by decide) (by decide) (fun h=>absurd h.1 (by decide))) ho h0⟩
theorem lr {c:UInt8} {p t:List UInt8} {acc:List Tk} (ho1:ql c.toNat=true) (mB:c=35->dg (sL t)=true) (pW:qj c.toNat=true->sL t≠61) (h0:(TK (p++([c]++t)) p.length acc).2.2=0) :
 TK (p++([c]++t)) p.length acc=TK (p++([c]++t)) (p.length+1) (acc++[(4,[c],p.length)]):=by
 have hd:=IL p [c] t;have hl:=IK hd (by simp);have e1:Ca (p++([c]++t)) p.length=c.toNat:=Ml hd;have e2:Ca (p++([c]++t)) (p.length+1)=sL t:=dG hd;have p8:=FB hd;generalize p++([c]++t)=s at *;have n1:=sM ⟨c.toNat,Aaf c⟩ ho1;have yT:DF s p.length=1:=by unfold DF;rw [if_neg (fun h=>pW (by rw [<- e1];exact h.2) (by rw [<- e2];exact h.1)),e1,if_pos ho1]
 have ho:FJ s p.length=.inl ((4,[c],p.length),p.length+1):=by
  rw [Gn,e1,n1.1,n1.2.1,yT,if_neg (by simp),if_neg (by simp),if_neg n1.2.2.1,if_neg (by decide)];rw [show p.length+1=p.length+[c].length from rfl,p8]
 exact SL hl.2 (Y5 hl.2 e1 n1.2.2.2.1 n1.2.2.2.2.1 n1.2.2.2.2.2 (fun h=>by
  have:=mB (by rw [<- Aas];exact h.1);rw [<- e2,h.2] at this;cases this)) ho h0
theorem FQ {c:UInt8} (h:(ql c.toNat && !qj c.toNat && c != 35)=true):Lo [c] [(4,[c])]:=fun p t acc h0=>by
 rw [Aa8,Aa8,Aar,bne_iff_ne] at h;exact ⟨[(4,[c],p.length)],rfl,lr h.1.1 (fun e=>absurd e h.2) (fun e=>by rw [h.1.2] at e;cases e) h0⟩
theorem qP {c:UInt8} (h:(ql c.toNat && c != 35)=true):Lx [c] [(4,[c])]:=fun p t acc ht h0=>by
 rw [Aa8,bne_iff_ne] at h;exact ⟨[(4,[c],p.length)],rfl,lr h.1 (fun e=>absurd e h.2) (fun _=>(lj ht).1) h0⟩
theorem bC {c:UInt8} (h:qj c.toNat=true):Lo [c,61] [(4,[c,61])]:=fun p t acc h0=>by
 have hd:=IL p [c,61] t;have hl:=IK hd (by simp);have e1:Ca (p++([c,61]++t)) p.length=c.toNat:=Ml hd;have e2:Ca (p++([c,61]++t)) (p.length+1)=61:=dG hd;have p8:=FB hd;generalize p++([c,61]++t)=s at *;have n1:=sO ⟨c.toNat,Aaf c⟩ h;have yT:DF s p.length=2:=by unfold DF;rw [if_pos ⟨e2,by rw [e1];exact h⟩]
 have ho:FJ s p.length=.inl ((4,[c,61],p.length),p.length+2):=by
  rw [Gn,e1,n1.1,n1.2.1,yT,if_neg (by simp),if_neg (by simp),if_neg n1.2.2.1,if_neg (by decide)];rw [show p.length+2=p.length+[c,61].length from rfl,p8]
 exact ⟨[(4,[c,61],p.length)],rfl,SL hl.2 (Y5 hl.2 e1 n1.2.2.2.1 n1.2.2.2.2.1 n1.2.2.2.2.2.1 (fun h=>n1.2.2.2.2.2.2 h.1)) ho h0⟩
theorem dH {c:UInt8} (h:(c == 32 || c == 10)=true):Lo [c] []:=fun p t acc h0=>by
 have hd:=IL p [c] t;have hl:=IK hd (by simp);have e1:Ca (p++([c]++t)) p.length=c.toNat:=Ml hd;generalize p++([c]++t)=s at *;rw [Aaj,beq_iff_eq,beq_iff_eq] at h;refine ⟨[],rfl,?_⟩
 have hs:sk s p.length=sk s (p.length+1):=by
  rw [LM (by omega),if_pos hl.2,e1,if_pos (by rcases h with rfl | rfl <;> decide)]
 unfold TK;rw [hs,Aaa];rfl
theorem oM {w:List UInt8} (h:oL w=true):Lx (35 :: w) [(4,[35]),(2,w)]:=fun p t acc ht h0=>by
 have e:p++(35 :: w++t)=p++([35]++(w++t)):=rfl
 have NL:dg (sL (w++t))=true:=by
  cases w with
  | nil=>cases h
  | cons c r=>
   unfold oL at h;rw [Aa8,Aai] at h;exact h.2 c (by simp)
 rw [e] at h0 |-;have e2:=lr (c:=35) (p:=p) (t:=w++t) (acc:=acc) (by decide) (fun _=>NL) (fun h=>absurd h (by decide)) h0;rw [e2] at h0 |-;rw [<- Aa4,show p.length+1=(p++[35]).length from by simp] at h0 |-;obtain ⟨us,e3,e4⟩:=Jr h (p++[35]) t _ ht h0;have e5:(p++[35]).length+w.length=p.length+((35:UInt8) :: w).length:=by simp only [Aa1,Aa5,Aav];omega
 exact ⟨(4,[35],p.length) :: us,by rw [Aaw,e3];rfl,by rw [e4,e5];simp⟩
theorem IM {b B} (h:Lx b B):Lx (32 :: b) B:=Ee (dH rfl) h
theorem B9 {w b B} (hw:Pj w=true) (h:Lx b B):Lx (w++32 :: b) ((1,w) :: B):=Da (CE hw) (IM h) rfl
theorem oN {w:List UInt8} {ts} (h:Lx w ts) (h0:(BD w).2.2=0):∃ us:List Tk,us.map kt=ts/\(BD w).1=us++[(0,[],w.length)]/\w.length<=20000:=by
 unfold BD at h0 |-;by_cases c:20000 < w.length
 · rw [if_pos c] at h0;cases h0
 · rw [if_neg c] at h0 |-
   have e:GD (w.length+1) w (DE (w.length+1) w 0) []=TK ([]++(w++[])) ([]:List UInt8).length []:=by rw [Aab,Aaa];rfl
   rw [e] at h0 |-;obtain ⟨us,e1,e2⟩:=h [] [] [] rfl h0;refine ⟨us,e1,?_,by omega⟩;rw [e2];have e3:([]:List UInt8)++(w++[])=w:=by simp
   rw [e3];unfold TK;rw [show ([]:List UInt8).length+w.length=w.length from Nat.zero_add _,LM (Aag _),if_neg (by omega),RH _ (Aag _),if_neg (by omega)];rfl
abbrev KT:=Nat×List UInt8
def Dq (L:List Tk) (i:Nat) (ts:List KT):Prop:=(L.drop i).map kt=ts
def Js (ts:List KT):KT:=ts.headD (0,[])
theorem SM {L:List Tk} {i:Nat} {ts:List KT} (h:Dq L i ts):kt (tokAt L i)=Js ts:=by
 unfold Dq at h;subst h
 have e:tokAt L i=((L.drop i)[0]?).getD (0,[],0):=by
  unfold tokAt;rw [List.getD_eq_getElem?_getD,List.getElem?_drop,Aan]
 rw [e];cases L.drop i <;> rfl
theorem Ga {L:List Tk} {i:Nat} {ts:List KT} (h:Dq L i ts) (k:Nat) (w:List UInt8):Br L k w i=((Js ts).1 == k && (Js ts).2 == w):=by
 rw [<- SM h];rfl
theorem EP {L:List Tk} {i:Nat} {ts:List KT} (h:Dq L i ts):(tokAt L i).1=(Js ts).1:=by
 rw [<- SM h];rfl
theorem Mm {L:List Tk} {i:Nat} {ts:List KT} (h:Dq L i ts):(tokAt L i).2.1=(Js ts).2:=by
 rw [<- SM h];rfl
theorem BN {L:List Tk} {i:Nat} {a r:List KT} (h:Dq L i (a++r)):Dq L (i+a.length) r:=by
 unfold Dq at h |-;rw [<- Aal,List.map_drop,h,Aak]
theorem A7 {L:List Tk} {i:Nat} {x:KT} {r:List KT} (h:Dq L i (x :: r)):Dq L (i+1) r:=BN (a:=[x]) h
theorem CT {L:List Tk} {i k:Nat} {w:List UInt8} {r:List KT} (h:Dq L i ((k,w) :: r)):Br L k w i=true:=by
 rw [Ga h];simp [Js]
theorem dI {ts r:List KT} (h:ts≠[]):Js (ts++r)=Js ts:=by
 cases ts with
 | nil=>exact absurd rfl h
 | cons x s=>rfl
theorem bD {L:List Tk} {i k:Nat} {w:List UInt8} {ts r:List KT} (h:Dq L i (ts++r)) (hn:ts≠[]) (hh:Js ts≠(k,w)):Br L k w i=false:=by
 rw [Ga h,dI hn];rw [Bool.and_eq_false_iff,beq_eq_false_iff_ne,beq_eq_false_iff_ne];refine Decidable.or_iff_not_imp_left.2 fun h1 h2=>hh ?_;exact Prod.ext (Decidable.of_not_not h1) h2
def Ly (t:KT):Nat:=
 if t == (1,[111,114]) then 1 else if t == (1,[97,110,100]) then 2 else if t.1 == 4 && GF.contains t.2 then 4 else if t == (4,[43]) || t == (4,[45]) then 5 else if t == (4,[42]) then 6 else
 if t == (0,[]) || t == (1,[116,104,101,110]) || t == (1,[101,108,115,101]) || t == (4,[41]) || t == (4,[59]) then 0 else 9
theorem Jt {L:List Tk} {i l k:Nat} {w:List UInt8} {ts:List KT} (h:Dq L i ts) (hl:Ly (Js ts) < l) (hk:l<=Ly (k,w)):Br L k w i=false:=by
 rw [Ga h];cases e:((Js ts).1 == k && (Js ts).2 == w) with
 | false=>rfl
 | true=>
  rw [Aa8,beq_iff_eq,beq_iff_eq] at e;have:Js ts=(k,w):=Prod.ext e.1 e.2;rw [this] at hl;omega
def Rd (L:List Tk) (nt:NT) (o i:Nat) (e:Tr) (j:Nat):Prop:=∃ m,∀ n,m<=n->pz L n nt o i=.ok e j
theorem BV {L:List Tk} {nt:NT} {o i j:Nat} {e:Tr} (h:∃ m,∀ n,m<=n->pz L (n+1) nt o i=.ok e j):Rd L nt o i e j:=by
 obtain ⟨m,h⟩:=h;refine ⟨m+1,fun n hn=>?_⟩;obtain ⟨k,rfl⟩:∃ k,n=k+1:=⟨n - 1,by omega⟩;exact h k (by omega)
def GR (nt:NT) (b:Nat) (ts:List KT) (d:Nat) (e:Tr):Prop:=∀ (L:List Tk) (o i:Nat) (r:List KT),Dq L i (ts++r)->o+d<=100->Ly (Js r) < b->Rd L nt o i e (i+ts.length)
def GS (nt:NT) (lp:Tr->NT) (b:Nat) (ts:List KT) (d:Nat) (e:Tr):Prop:=∀ (L:List Tk) (o i:Nat) (r:List KT),Dq L i (ts++r)->o+d<=100->Ly (Js r) < b->∀ x j,Rd L (lp e) o (i+ts.length) x j->Rd L nt o i x j
def G:Nat->List KT->Nat->Tr->Prop
 | 0=>GR .expr 1
 | 1=>GR (.chain true) 1
 | 2=>GR (.chain false) 2
 | 3=>GR .not 3
 | 4=>GR .cmp 4
 | 5=>GS .sum .sumL 6
 | 6=>GS .prod .prodL 7
 | 7=>GR .un 7
 | 8=>GR .prim 8
 | _=>fun _ _ _=>False
section
variable {ts:List KT} {d:Nat} {e:Tr}
theorem g8 (h:GR .prim 8 ts d e) (hn:ts≠[]) (hh:Js ts≠(4,[45])):GR .un 7 ts d e:=fun L o i r By ho hl=>by
 obtain ⟨m,h⟩:=h L o i r By ho (by omega);refine BV ⟨m,fun n hm=>?_⟩;rw [pz,bD By hn hh];exact h n hm
theorem g7 (h:GR .un 7 ts d e):GS .prod .prodL 7 ts d e:=fun L o i r By ho hl x j ⟨m2,h2⟩=>by
 obtain ⟨m1,h1⟩:=h L o i r By ho hl;refine BV ⟨max m1 m2,fun n hm=>?_⟩;rw [pz,h1 n (by omega)];exact h2 n (by omega)
theorem zM (h:GS .prod .prodL 7 ts d e):GR .prod 6 ts d e:=fun L o i r By ho hl=>by
 refine h L o i r By ho (by omega) e _ (BV ⟨0,fun n _=>?_⟩);rw [pz,Jt (BN By) hl (by decide)];rfl
theorem g6 (h:GS .prod .prodL 7 ts d e):GS .sum .sumL 6 ts d e:=fun L o i r By ho hl x j ⟨m2,h2⟩=>by
 obtain ⟨m1,h1⟩:=zM h L o i r By ho hl;refine BV ⟨max m1 m2,fun n hm=>?_⟩;rw [pz,h1 n (by omega)];exact h2 n (by omega)
theorem zN (h:GS .sum .sumL 6 ts d e):GR .sum 5 ts d e:=fun L o i r By ho hl=>by
 refine h L o i r By ho (by omega) e _ (BV ⟨0,fun n _=>?_⟩);rw [pz,Jt (BN By) hl (by decide),Jt (BN By) hl (by decide)];rfl
theorem oO {L:List Tk} {i:Nat} {r:List KT} (By:Dq L i r) (hl:Ly (Js r) < 4):C0 L 4 i GF 0=none:=by
 have f:∀ w,4<=Ly (4,w)->Br L 4 w i=false:=fun w hw=>Jt By hl hw;unfold GF;simp only [C0];rw [f _ (by decide),f _ (by decide),f _ (by decide),f _ (by decide),f _ (by decide),f _ (by decide)];rfl
theorem g5 (h:GS .sum .sumL 6 ts d e):GR .cmp 4 ts d e:=fun L o i r By ho hl=>by
 obtain ⟨m1,h1⟩:=zN h L o i r By ho (by omega);refine BV ⟨m1,fun n hm=>?_⟩;rw [pz,h1 n hm];show (match C0 L 4 (i+ts.length) GF 0 with | some k=>_ | none=>_)=_;rw [oO (BN By) hl]
theorem g4 (h:GR .cmp 4 ts d e) (hn:ts≠[]) (hh:Js ts≠(1,[110,111,116])):GR .not 3 ts d e:=fun L o i r By ho hl=>by
 obtain ⟨m,h⟩:=h L o i r By ho (by omega);refine BV ⟨m,fun n hm=>?_⟩;rw [pz,bD By hn hh];exact h n hm
theorem W3 {b:Bool} {a:List Tr} {L:List Tk} {o i:Nat} {r:List KT} (By:Dq L i r) (hl:Ly (Js r) < Ly (1,MZ b)):Rd L (.chainL b a) o i (js b a) i:=BV ⟨0,fun n _=>by
 rw [pz,Jt By hl (Aag _)];rfl⟩
theorem g3 (h:GR .not 3 ts d e):GR (.chain false) 2 ts d e:=fun L o i r By ho hl=>by
 obtain ⟨m1,h1⟩:=h L o i r By ho (by omega);obtain ⟨m2,h2⟩:=W3 (b:=false) (a:=[e]) (o:=o) (BN By) hl;refine BV ⟨max m1 m2,fun n hm=>?_⟩;rw [pz];show (pz L n .not o i).bind _=_;rw [h1 n (by omega)];exact h2 n (by omega)
theorem g2 (h:GR (.chain false) 2 ts d e):GR (.chain true) 1 ts d e:=fun L o i r By ho hl=>by
 obtain ⟨m1,h1⟩:=h L o i r By ho (by omega);obtain ⟨m2,h2⟩:=W3 (b:=true) (a:=[e]) (o:=o) (BN By) hl;refine BV ⟨max m1 m2,fun n hm=>?_⟩;rw [pz];show (pz L n (.chain false) o i).bind _=_;rw [h1 n (by omega)];exact h2 n (by omega)
theorem g1 (h:GR (.chain true) 1 ts d e) (hn:ts≠[]) (hh:Js ts≠(1,[105,102])):GR .expr 1 ts d e:=fun L o i r By ho hl=>by
 obtain ⟨m,h⟩:=h L o i r By ho (by omega);refine BV ⟨m,fun n hm=>?_⟩;rw [pz,bD By hn hh];exact h n hm
def SN (l:Nat) (ts:List KT):Prop:=ts≠[]/\(1<=l->Js ts≠(1,[105,102]))/\(4<=l->Js ts≠(1,[110,111,116]))/\(8<=l->Js ts≠(4,[45]))
theorem SN.mono {l l':Nat} (h:SN l ts) (hl:l'<=l):SN l' ts:=⟨h.1,fun x=>h.2.1 (by omega),fun x=>h.2.2.1 (by omega),fun x=>h.2.2.2 (by omega)⟩
theorem sR:∀ {l:Nat},G (l+1) ts d e->SN (l+1) ts->G l ts d e
 | 0,h,hh=>g1 h hh.1 (hh.2.1 (by omega))
 | 1,h,hh=>g2 h
 | 2,h,hh=>g3 h
 | 3,h,hh=>g4 h hh.1 (hh.2.2.1 (by omega))
 | 4,h,hh=>g5 h
 | 5,h,hh=>g6 h
 | 6,h,hh=>g7 h
 | 7,h,hh=>g8 h hh.1 (hh.2.2.2 (by omega))
 | _+8,h,_=>Ab0 h
theorem wV {l:Nat}:∀ {k:Nat},G (l+k) ts d e->SN (l+k) ts->G l ts d e
 | 0,h,_=>h
 | k+1,h,hh=>wV (k:=k) (sR h hh) (hh.mono (by omega))
theorem GR.mono {nt:NT} {b d':Nat} (h:GR nt b ts d e) (hd:d<=d'):GR nt b ts d' e:=fun L o i r By ho hl=>h L o i r By (by omega) hl
theorem G.mono {d':Nat} (hd:d<=d'):∀ {l:Nat},G l ts d e->G l ts d' e
 | 0,h | 1,h | 2,h | 3,h | 4,h | 7,h | 8,h=>GR.mono h hd
 | 5,h | 6,h=>fun L o i r By ho hl=>h L o i r By (by omega) hl
 | _+9,h=>Ab0 h
end
theorem A1 {α β:Type} (a:α) (i:Nat) (f:α->Nat->PR β):(PR.ok a i).bind f=f a i:=rfl
theorem GG {α:Type} {e:α} {i j:Nat} (h:i=j):PR.ok e i=.ok e j:=by rw [h]
section
variable {L:List Tk} {i:Nat} {r:List KT}
theorem CF {k:Nat} {w:List UInt8} (h:Dq L i ((k,w) :: r)):Bs L k w i=.ok () (i+1):=by
 unfold Bs;rw [CT h];rfl
theorem OQ {w:List UInt8} {lo hi:Nat} (h:Dq L i ((2,w) :: r)) (h1:lo<=amtN w 0) (h2:amtN w 0<=hi):Hq L lo hi i=.ok (amtN w 0) (i+1):=by
 have e1:=EP h;have e2:=Mm h;unfold Hq;rw [e1,e2];show (if (2:Nat)=2 then (if amtN w 0 < lo\/hi < amtN w 0 then PR.bad (atT L i) 2 else .ok (amtN w 0) (i+1)) else _)=_;rw [if_pos rfl,if_neg (by omega)]
theorem lu {w:List UInt8} {hi:Nat} (h:Dq L i ((2,w) :: r)) (h1:w.length=2) (h2:amtN w 0<=hi):PO L hi i=.ok (amtN w 0) (i+1):=by
 have e2:(tokAt L i).2.1=w:=Mm h;unfold PO;rw [e2,if_neg (fun x=>x.2 h1),OQ h (Ab1 _) h2]
theorem GM {w:List UInt8} (h:Dq L i ((1,w) :: r)) (hv:BQ w=true):DG L i=.ok w (i+1):=by
 have e1:=EP h;have e2:=Mm h;unfold DG;rw [e1,e2];show (if (1:Nat)=1 then (if BQ w=true then PR.ok w (i+1) else _) else _)=_;rw [if_pos rfl,if_pos hv]
theorem Hm {x:KT} (h:Dq L i (x :: r)):Cx L i=(x.1 == 2 && !((Js r).1 == 4 && (Js r).2 == [46])):=by
 unfold Cx;rw [EP h,Ga (A7 h)];rfl
end
def JH (t:KT) (k:Nat):List (List UInt8)->Nat->Option Nat
 | [],_=>none
 | w :: r,n=>if t.1 == k && t.2 == w then some n else JH t k r (n+1)
theorem QD {L:List Tk} {i:Nat} {ts:List KT} (h:Dq L i ts) (k:Nat):∀ (l:List (List UInt8)) (n:Nat),C0 L k i l n=JH (Js ts) k l n
 | [],_=>rfl
 | w :: r,n=>by
  unfold C0 JH;rw [Ga h,QD h k r (n+1)]
section
variable {d:Nat} {A B C:List KT} {a b c:Tr}
theorem zO (ha:GR .expr 1 A d a) (hb:GR .expr 1 B d b) (hc:GR .expr 1 C d c):GR .expr 1 ((1,[105,102]) :: (A++(1,[116,104,101,110]) :: (B++(1,[101,108,115,101]) :: C))) (d+1) (Bd 14 [a,b,c]):=fun L o i r By ho hl=>by
 have h0:Dq L i ((1,[105,102]) :: (A++((1,[116,104,101,110]) :: (B++((1,[101,108,115,101]) :: (C++r)))))):=by simpa using By
 have h1:=A7 h0;obtain ⟨m1,r1⟩:=ha L (o+1) _ _ h1 (by omega) (by decide:Ly (1,[116,104,101,110]) < 1);have h2:=BN h1;have h3:=A7 h2;obtain ⟨m2,r2⟩:=hb L (o+1) _ _ h3 (by omega) (by decide:Ly (1,[101,108,115,101]) < 1);have h4:=BN h3;have h5:=A7 h4;obtain ⟨m3,r3⟩:=hc L (o+1) _ _ h5 (by omega) hl;refine BV ⟨max m1 (max m2 m3),fun n hm=>?_⟩;rw [pz,CT h0,if_pos rfl,if_pos (by omega),r1 n (by omega),A1,CF h2,A1,r2 n (by omega),A1,CF h4,A1,r3 n (by omega),A1];exact GG (by simp only [Aa5,Aa1];omega)
def gE (b:Bool):List (List KT×Tr)->List KT
 | []=>[]
 | x :: r=>(1,MZ b) :: (x.1++gE b r)
theorem lz {b:Bool} {lb:Nat} (uS:Ly (1,MZ b) < lb) {d:Nat}:∀ (ks:List (List KT×Tr)) (acc:List Tr),acc.length+ks.length<=8->(∀ x ∈ ks,GR (Eo b) lb x.1 d x.2) ->
 ∀ (L:List Tk) (o i:Nat) (r:List KT),Dq L i (gE b ks++r)->o+d<=100->Ly (Js r) < Ly (1,MZ b)->Rd L (.chainL b acc) o i (js b (acc++ks.map (·.2))) (i+(gE b ks).length)
 | [],acc,_,_,L,o,i,r,By,ho,hl=>by
  rw [List.map_nil,Aaa];exact W3 By hl
 | (A,a) :: ks,acc,hn,hk,L,o,i,r,By,ho,hl=>by
  rw [Aa5] at hn;have h0:Dq L i ((1,MZ b) :: (A++(gE b ks++r))):=by simpa [gE] using By
  have h1:=A7 h0
  have mY:Ly (Js (gE b ks++r)) < lb:=by
   cases ks with
   | nil=>exact Aaz hl uS
   | cons y ks=>exact uS
  obtain ⟨m1,r1⟩:=hk (A,a) (by simp) L o _ _ h1 ho mY;obtain ⟨m2,r2⟩:=lz uS ks (acc++[a]) (by rw [Aa1,Aao];omega) (fun x hx=>hk x (by simp [hx])) L o _ _ (BN h1) ho hl;refine BV ⟨max m1 m2,fun n hm=>?_⟩;rw [pz,CT h0,if_pos rfl,if_neg (by omega),r1 n (by omega),A1,r2 n (by omega)];rw [Aaw,Aa4];exact GG (by show i+1+A.length+(gE b ks).length=i+((1,MZ b) :: (A++gE b ks)).length;simp only [Aa5,Aa1];omega)
theorem wW {b:Bool} {lb:Nat} (uS:Ly (1,MZ b) < lb) {d:Nat} {A:List KT} {a:Tr} {ks:List (List KT×Tr)} (hn:ks.length<=7) (ha:GR (Eo b) lb A d a) (hk:∀ x ∈ ks,GR (Eo b) lb x.1 d x.2):GR (.chain b) (Ly (1,MZ b)) (A++gE b ks) d (js b (a :: ks.map (·.2))):=fun L o i r By ho hl=>by
 have h0:Dq L i (A++(gE b ks++r)):=by simpa using By
 have mY:Ly (Js (gE b ks++r)) < lb:=by
  cases ks with
  | nil=>exact Aaz hl uS
  | cons y ks=>exact uS
 obtain ⟨m1,r1⟩:=ha L o _ _ h0 ho mY;obtain ⟨m2,r2⟩:=lz uS ks [a] (by rw [Aao];omega) hk L o _ _ (BN h0) ho hl;refine BV ⟨max m1 m2,fun n hm=>?_⟩;rw [pz,r1 n (by omega),A1,r2 n (by omega)];exact GG (by simp only [Aa1];omega)
theorem wX (ha:GR .not 3 A d a):GR .not 3 ((1,[110,111,116]) :: A) (d+1) (Bd 6 [a]):=fun L o i r By ho hl=>by
 obtain ⟨m,r1⟩:=ha L (o+1) _ _ (A7 By) (by omega) hl;refine BV ⟨m,fun n hm=>?_⟩;rw [pz,CT By,if_pos rfl,if_pos (by omega),r1 n hm,A1];exact GG (by simp only [Aa5];omega)
theorem wY {w:List UInt8} {k:Nat} (hw:JH (4,w) 4 GF 0=some k) (hl4:Ly (4,w) < 5) (ha:GS .sum .sumL 6 A d a) (hb:GS .sum .sumL 6 B d b):GR .cmp 4 (A++(4,w) :: B) d (PT k a b):=fun L o i r By ho hl=>by
 have h0:Dq L i (A++((4,w) :: (B++r))):=by simpa using By
 obtain ⟨m1,r1⟩:=zN ha L o _ _ h0 ho hl4;have h1:=BN h0;obtain ⟨m2,r2⟩:=zN hb L o _ _ (A7 h1) ho (by omega);refine BV ⟨max m1 m2,fun n hm=>?_⟩;rw [pz,r1 n (by omega),A1,QD h1];show (match JH (4,w) 4 GF 0 with | some k=>_ | none=>_)=_;rw [hw];show (pz L n .sum o (i+A.length+1)).bind _=_;rw [r2 n (by omega),A1];exact GG (by simp only [Aa5,Aa1];omega)
theorem wZ (ha:GS .sum .sumL 6 A d a) (hb:GS .prod .prodL 7 B d b):GS .sum .sumL 6 (A++(4,[43]) :: B) d (Bd 11 [a,b]):=fun L o i r By ho hl x j ⟨m2,r2⟩=>by
 have h0:Dq L i (A++((4,[43]) :: (B++r))):=by simpa using By
 have h1:=BN h0;obtain ⟨m1,r1⟩:=zM hb L o _ _ (A7 h1) ho hl;refine ha L o i _ h0 ho (by decide:Ly (4,[43]) < 6) x j (BV ⟨max m1 m2,fun n hm=>?_⟩);rw [pz,CT h1,if_pos rfl,r1 n (by omega),A1];have e:i+A.length+1+B.length=i+(A++(4,[43]) :: B).length:=by simp only [Aa5,Aa1];omega
 rw [e];exact r2 n (by omega)
theorem w5 (ha:GS .sum .sumL 6 A d a) (hb:GS .prod .prodL 7 B d b):GS .sum .sumL 6 (A++(4,[45]) :: B) d (Bd 12 [a,b]):=fun L o i r By ho hl x j ⟨m2,r2⟩=>by
 have h0:Dq L i (A++((4,[45]) :: (B++r))):=by simpa using By
 have h1:=BN h0;obtain ⟨m1,r1⟩:=zM hb L o _ _ (A7 h1) ho hl;refine ha L o i _ h0 ho (by decide:Ly (4,[45]) < 6) x j (BV ⟨max m1 m2,fun n hm=>?_⟩);have hp:Br L 4 [43] (i+A.length)=false:=by rw [Ga h1];rfl
 rw [pz,hp,CT h1,if_neg (by decide),if_pos rfl,r1 n (by omega),A1];have e:i+A.length+1+B.length=i+(A++(4,[45]) :: B).length:=by simp only [Aa5,Aa1];omega
 rw [e];exact r2 n (by omega)
theorem w6 (ha:GS .prod .prodL 7 A d a) (hb:GR .un 7 B d b):GS .prod .prodL 7 (A++(4,[42]) :: B) d (Bd 13 [a,b]):=fun L o i r By ho hl x j ⟨m2,r2⟩=>by
 have h0:Dq L i (A++((4,[42]) :: (B++r))):=by simpa using By
 have h1:=BN h0;obtain ⟨m1,r1⟩:=hb L o _ _ (A7 h1) ho hl;refine ha L o i _ h0 ho (by decide:Ly (4,[42]) < 7) x j (BV ⟨max m1 m2,fun n hm=>?_⟩);rw [pz,CT h1,if_pos rfl,r1 n (by omega),A1];have e:i+A.length+1+B.length=i+(A++(4,[42]) :: B).length:=by simp only [Aa5,Aa1];omega
 rw [e];exact r2 n (by omega)
def zP (A:List KT):Prop:=A≠[]/\((Js A).1≠2\/∃ w r,A=(2,w) :: (4,[46]) :: r)
theorem w7 (ha:GR .un 7 A d a) (hp:zP A):GR .un 7 ((4,[45]) :: A) (d+1) (Bd 12 [El 2 0,a]):=fun L o i r By ho hl=>by
 obtain ⟨m,r1⟩:=ha L (o+1) _ _ (A7 By) (by omega) hl;refine BV ⟨m,fun n hm=>?_⟩
 have J7:Cx L (i+1)=false:=by
  have h1:=A7 By;obtain ⟨hn,h | ⟨w,q,rfl⟩⟩:=hp
  · cases A with
    | nil=>exact absurd rfl hn
    | cons y A=>
     have h:y.1≠2:=h;rw [Hm h1,beq_eq_false_iff_ne.2 h];rfl
  · rw [Hm h1];rfl
 rw [pz,CT By,if_pos rfl,J7,if_neg (by decide),if_pos (by omega),r1 n hm,A1];exact GG (by simp only [Aa5];omega)
theorem sS {w:List UInt8}:GR .un 7 [(4,[45]),(2,w)] d (El 2 (-(amtN w 0:Int))):=fun L o i r By ho hl=>by
 refine BV ⟨0,fun n hm=>?_⟩;have h1:Dq L (i+1) ((2,w) :: r):=A7 By;have hd:Br L 4 [46] (i+1+1)=false:=Jt (A7 h1) hl (by decide)
 have J7:Cx L (i+1)=true:=by
  unfold Cx;rw [EP h1,hd];rfl
 rw [pz,CT By,if_pos rfl,J7,if_pos rfl,Mm h1];rfl
theorem w8 {w:List UInt8}:GR .prim 8 [(2,w)] d (El 2 (amtN w 0:Int)):=fun L o i r By ho hl=>by
 refine BV ⟨0,fun n hm=>?_⟩;have hd:Br L 4 [46] (i+1)=false:=Jt (A7 By) hl (by decide)
 have J7:Cx L i=true:=by
  unfold Cx;rw [EP By,hd];rfl
 rw [pz,J7,if_pos rfl,Mm By];rfl
theorem sU {w x y:List UInt8} (h1:1<=amtN w 0) (h2:amtN w 0<=250) (hx:BQ x=true) (hy:BQ y=true):GR .prim 8 [(2,w),(4,[46]),(1,x),(4,[46]),(1,y)] d (.mk 2 0 0 [] zV ((amtN w 0:Int),x,y) []):=fun L o i r By ho hl=>by
 refine BV ⟨0,fun n hm=>?_⟩;have a1:=A7 By;have a2:=A7 a1;have a3:=A7 a2;have a4:=A7 a3;have J7:Cx L i=false:=by rw [Hm By];rfl
 have hk:(tokAt L i).1=2:=EP By;rw [pz,J7,if_neg (by decide),if_pos hk];unfold Eb;rw [OQ By h1 h2,A1,CF a1,A1,GM a2 hx,A1,CF a3,A1,GM a4 hy,A1];rfl
theorem xc {w:List UInt8}:GR .prim 8 [(3,w)] d (.mk 1 0 0 [] (4,0,w) zK []):=fun L o i r By ho hl=>by
 refine BV ⟨0,fun n hm=>?_⟩;have J7:Cx L i=false:=by rw [Hm By];rfl
 have hk:(tokAt L i).1=3:=EP By;rw [pz,J7,if_neg (by decide),if_neg (by omega),if_pos hk,Mm By];rfl
theorem xe {w:List UInt8} (h:amtN w 0<=63):GR .prim 8 [(4,[35]),(2,w)] d (El 3 (amtN w 0:Int)):=fun L o i r By ho hl=>by
 refine BV ⟨0,fun n hm=>?_⟩;have J7:Cx L i=false:=by rw [Hm By];rfl
 have hk:(tokAt L i).1=4:=EP By;rw [pz,J7,if_neg (by decide),if_neg (by omega),if_neg (by omega),CT By,if_pos rfl,OQ (A7 By) (Ab1 _) h,A1];rfl
theorem xf (ha:GR .expr 1 A d a):GR .prim 8 ((4,[40]) :: (A++[(4,[41])])) (d+1) a:=fun L o i r By ho hl=>by
 have h0:Dq L i ((4,[40]) :: (A++((4,[41]) :: r))):=by simpa using By
 have h1:=A7 h0;obtain ⟨m,r1⟩:=ha L (o+1) _ _ h1 (by omega) (by decide:Ly (4,[41]) < 1);refine BV ⟨m,fun n hm=>?_⟩;have J7:Cx L i=false:=by rw [Hm h0];rfl
 have hk:(tokAt L i).1=4:=EP h0;have hb:Br L 4 [35] i=false:=by rw [Ga h0];rfl
 rw [pz,J7,if_neg (by decide),if_neg (by omega),if_neg (by omega),hb,if_neg (by decide),CT h0,if_pos rfl,if_pos (by omega),r1 n hm,A1,CF (BN h1),A1];exact GG (by simp only [Aa5,Aa1,Aav];omega)
theorem Mn {w:List UInt8} {ts:List KT} (h:∀ (L:List Tk) (i:Nat) (r:List KT),Dq L i (((1,w) :: ts)++r)->Ly (Js r) < 8->Fp L i=.ok a (i+((1,w) :: ts).length)):GR .prim 8 ((1,w) :: ts) d a:=fun L o i r By ho hl=>by
 refine BV ⟨0,fun n hm=>?_⟩;have h0:Dq L i ((1,w) :: (ts++r)):=By;have J7:Cx L i=false:=by rw [Hm h0];rfl
 have hk:(tokAt L i).1=1:=EP h0;have hb:∀ s,Br L 4 s i=false:=fun s=>by rw [Ga h0];rfl
 rw [pz,J7,if_neg (by decide),if_neg (by omega),if_neg (by omega),hb,if_neg (by decide),hb,if_neg (by decide)];exact h L i r By hl
theorem A2 {L:List Tk} {i:Nat} {w:List UInt8} {r:List KT} (h:Dq L i ((1,w) :: r)) (s:List UInt8):Br L 1 s i=(w == s):=by rw [Ga h];rfl
theorem sV:GR .prim 8 [(1,[116,114,117,101])] d (El 1 1):=Mn fun L i r h hl=>by
 unfold Fp;rw [A2 h];rfl
theorem oP:GR .prim 8 [(1,[102,97,108,115,101])] d (El 1 0):=Mn fun L i r h hl=>by
 unfold Fp;rw [A2 h,A2 h];rfl
theorem sW {s:List UInt8} (hs:BQ s=true):GR .prim 8 [(1,[109,111,100,101]),(1,[105,115]),(1,s)] d (.mk 3 0 0 s zV zK []):=Mn fun L i r h hl=>by
 have h1:=A7 h;have h2:=A7 h1;unfold Fp;rw [A2 h,A2 h,A2 h,CF h1,A1,GM h2 hs];rfl
theorem xg {L:List Tk} {i:Nat} {x y:List UInt8} {r:List KT} (h:Dq L i ((2,x) :: (4,[58]) :: (2,y) :: r)) (hx:x.length=2) (hy:y.length=2) (h1:amtN x 0<=23) (h2:amtN y 0<=59):Fo L i=.ok (60 * amtN x 0+amtN y 0) (i+3):=by
 have a1:=A7 h;have a2:=A7 a1;unfold Fo;rw [lu h hx h1,A1,CF a1,A1,lu a2 hy h2,A1]
def two (k:Nat):List UInt8:=[qG (k / 10),qG (k % 10)]
theorem dJ:∀ k:_root_.Fin 60,amtN (two k.val) 0=k.val:=by decide +kernel
def Up (n:Nat):List KT:=[(2,two (n / 60)),(4,[58]),(2,two (n % 60))]
theorem W4 {L:List Tk} {i n:Nat} {r:List KT} (h:Dq L i (Up n++r)) (hn:n < 1440):Fo L i=.ok n (i+3):=by
 have e1:=dJ ⟨n / 60,by omega⟩;have e2:=dJ ⟨n % 60,by omega⟩;simp only at e1 e2;rw [xg h rfl rfl (by rw [e1];omega) (by rw [e2];omega),e1,e2];exact GG rfl |>.trans (by rw [show 60 * (n / 60)+n % 60=n from by omega])
theorem sX {n m:Nat} (hn:n < 1440) (hm:m < 1440):GR .prim 8 ((1,[116,105,109,101]) :: (Up n++(1,[116,111]) :: Up m)) d (.mk 4 n m [] zV zK []):=Mn fun L i r h hl=>by
 have h0:Dq L i ((1,[116,105,109,101]) :: (Up n++((1,[116,111]) :: (Up m++r)))):=by simpa using h
 have h1:=A7 h0;have h2:Dq L (i+1+3) _:=BN h1;unfold Fp;rw [A2 h0,A2 h0,A2 h0,A2 h0,W4 h1 hn,A1,CF h2,A1,W4 (A7 h2) hm];rfl
theorem oQ {L:List Tk} {i:Nat} {r:List KT} (By:Dq L i r) (hl:Ly (Js r) < 8):C0 L 1 i C7 0=none:=by
 have f:∀ w,8<=Ly (1,w)->Br L 1 w i=false:=fun w hw=>Jt By hl hw;unfold C7;simp only [C0];rw [f _ (by decide),f _ (by decide),f _ (by decide),f _ (by decide)];rfl
theorem sY:GR .prim 8 [(1,[104,111,109,101])] d (.mk 15 0 0 [] zV zK []):=Mn fun L i r h hl=>by
 unfold Fp;rw [A2 h,A2 h,A2 h,A2 h,A2 h,A2 h,oQ (A7 h) hl];rfl
theorem W5 {w:List UInt8} {k:Nat} (hk:JH (1,w) 1 C7 0=some k):GR .prim 8 [(1,[104,111,109,101]),(1,w)] d (.mk 15 ((k+1:Nat):Int) 0 [] zV zK []):=Mn fun L i r h hl=>by
 have h1:Dq L (i+1) ((1,w) :: r):=A7 h;have hp:C0 L 1 (i+1) C7 0=some k:=by rw [QD h1];exact hk
 unfold Fp;rw [A2 h,A2 h,A2 h,A2 h,A2 h,A2 h,hp];rfl
end
end Go.HH
