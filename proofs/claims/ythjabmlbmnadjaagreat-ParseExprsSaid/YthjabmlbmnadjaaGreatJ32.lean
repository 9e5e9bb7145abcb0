/-
  What the law needs, packed: Q2.
-/
import Derived.Test.YthjabmlbmnadjaaGreatJ31
open Option renaming getD->yW
open Go.Proofs.Tryz renaming f114->yX,f111->yZ,f109->y0,f86->y1,f108->y2,f90->y3,f85->za,f123->zd,f110->ze,f84->zg,f55->zh,f53->zi,prog->zl
open Nat renaming le_of_ble_eq_true->yY
open Bool renaming and_self->y4,and_eq_true->y8,eq_iff_iff->y9,not_not->y',and_true->zf
open List renaming set_cons_zero->y5,set_cons_succ->y6,mem_cons->y7,drop_eq_getElem_cons->zj,drop_eq_nil_of_le->zk,getElem_mem->zm,all_eq_true->zn,mem_append->zo,drop_zero->zq
open Go.Code renaming loop->zr
namespace Go.HH
open Go Go.Proofs
set_option maxRecDepth 100000
set_option linter.unusedSimpArgs false
set_option linter.unusedVariables false
mutual
theorem Bs (t:Tr):(DH t).pure=true:=by
 match t with
 | .mk k n m nm v key kids=>
  unfold DH;have h:=By kids;simp only [PV.pure,Aq,h,y4,Bool.true_and,zf]
theorem By (l:List Tr):Aq (BS l)=true:=by
 match l with
 | []=>unfold BS;rfl
 | t :: r=>
  unfold BS;rw [BE,Bs t,By r];rfl
end
theorem Ux:Bk CC ze (ze.body.getD .skip)=true:=by kernel_rfl
theorem Ss:CC.P.funcs[110]?=some ze:=by kernel_rfl
theorem Xb:Bk CC zd (zd.body.getD .skip)=true:=by kernel_rfl
theorem Uy:CC.P.funcs[123]?=some zd:=by kernel_rfl
theorem Ok:Bp CC 30 []=some (.agg [.int .i64 0,.int .i64 0,.str []]):=by kernel_rfl
theorem Ol:Bp CC 32 []=some (.agg [.int .i64 0,.str [],.str []]):=by kernel_rfl
def qt (v w:Ky):Bool:=(v.1 == w.1) && (v.2.1 == w.2.1) && (v.2.2 == w.2.2)
theorem jN (a a':Int) (b b' c c':List UInt8):QG CC 100 32 (.agg [.int .i64 a,.str b,.str c]) (.agg [.int .i64 a',.str b',.str c'])=some ((a == a') && (b == b') && (c == c')):=by
 have h:QG CC 100 32 (.agg [.int .i64 a,.str b,.str c]) (.agg [.int .i64 a',.str b',.str c'])=gq (a == a') (gq (b == b') (gq (c == c') (some true))):=by kernel_rfl
 rw [h];cases a == a' <;> cases b == b' <;> cases c == c' <;> rfl
theorem Mo:CC.P.eqGuardType CC.P.depth 32=false:=by kernel_rfl
theorem ng:QG CC 100 30 (.agg [.int .i64 0,.int .i64 0,.str []]) (.agg [.int .i64 0,.int .i64 0,.str []])=some true:=by rw [nf];rfl
theorem nh:QG CC 100 32 (.agg [.int .i64 0,.str [],.str []]) (.agg [.int .i64 0,.str [],.str []])=some true:=by rw [jN];rfl
def wC (k:Int) (b1 b2 b3 b4 b5:Bool):Bool:=(b1 && !(k == 4 || k == 5 || k == 15)) || (b2 && !(k == 4)) || (b3 && !(k == 3)) || (b4 && !(k == 1)) || (b5 && !(k == 2))
def ni:Tr->Bool
 | .mk k n m nm v key _=>wC k (n != 0) (m != 0) (!(nm == [])) (!(qc v (0,0,[]))) (!(qt key (0,[],[])))
set_option maxHeartbeats 20000000 in
theorem QO (t:Tr):∃ bx,Ae CC 110 [DH t] []=some (.ret (.bool (ni t)),bx):=by
 obtain ⟨k,n,m,nm,⟨vk,vn,vs⟩,⟨dv,cl,at_⟩,kids⟩:=t;unfold DH ni;dsimp only;obtain ⟨b1,h0,h1,l4⟩:∃ b,(n != 0)=b/\(n != 0)=b/\(n == 0)=!b:=⟨_,rfl,rfl,by simp [bne]⟩;obtain ⟨b2,g0,h2,mD⟩:∃ b,(m != 0)=b/\(m != 0)=b/\(m == 0)=!b:=⟨_,rfl,rfl,by simp [bne]⟩;obtain ⟨b3,f0,h3,vw⟩:∃ b,(!(nm == []))=b/\HP .neq nm []=some (.bool b)/\HP .eql nm []=some (.bool (!b)):=⟨_,rfl,rfl,by rw [y'];rfl⟩;obtain ⟨b4,e0,h4⟩:∃ b,(!(qc (vk,vn,vs) (0,0,[])))=b/\QG CC 100 30 (.agg [.int .i64 vk,.int .i64 vn,.str vs]) (.agg [.int .i64 0,.int .i64 0,.str []])=some (!b):=⟨_,rfl,by rw [nf,y'];rfl⟩;obtain ⟨b5,d0,h5⟩:∃ b,(!(qt (dv,cl,at_) (0,[],[])))=b/\QG CC 100 32 (.agg [.int .i64 dv,.str cl,.str at_]) (.agg [.int .i64 0,.str [],.str []])=some (!b):=⟨_,rfl,by rw [jN,y'];rfl⟩;rw [h0,g0,f0,e0,d0];clear h0 g0 f0 e0 d0;have vz:HP .neq [] []=some (.bool false):=rfl;have me:HP .eql [] []=some (.bool true):=rfl
 have hk:(k=1\/k=2\/k=3\/k=4\/k=5\/k=15)\/((k == 1)=false/\(k == 2)=false/\(k == 3)=false/\(k == 4)=false/\(k == 5)=false/\(k == 15)=false):=by
  simp only [beq_eq_false_iff_ne];omega
 generalize BS kids=xs;rw [Ah (fn:=ze) (c:=ze.body.getD .skip) rfl rfl Ss rfl Ux (yY rfl)];rw [<- Am];simp only [Aa,Ac,ze,yW];rcases hk with hk | ⟨k1,k2,k3,k4,k5,k6⟩
 · rcases hk with rfl | rfl | rfl | rfl | rfl | rfl
   all_goals cases b1 <;> cases b2 <;> cases b3 <;> cases b4 <;> cases b5
   all_goals
    simp only [S9,Ag,seval,sF,Ok,Ol,Mn,Mo,ng,nh,y5,y6,h1,l4,h2,mD,h3,vw,vz,me,h4,h5];exact ⟨_,rfl⟩
 · cases b1 <;> cases b2 <;> cases b3 <;> cases b4 <;> cases b5
   all_goals
    simp only [S9,Ag,seval,sF,Ok,Ol,Mn,Mo,ng,nh,y5,y6,h1,l4,h2,mD,h3,vw,vz,me,h4,h5,k1,k2,k3,k4,k5,k6,wC];exact ⟨_,rfl⟩
theorem Uz (t:Tr) (bx):Ak CC (Ae CC) 110 [DH t] bx=some (.ret (.bool (ni t)),bx):=by
 obtain ⟨b,h⟩:=QO t;exact Ax rfl (by simp only [BE,Bs,CZ,y4]) h rfl
set_option maxHeartbeats 20000000 in
theorem Su (t:Tr):∃ bx,Ae CC 123 [DH t] []=some (.ret (.bool (!(ni t))),bx):=by
 obtain ⟨k,n,m,nm,⟨vk,vn,vs⟩,⟨dv,cl,at_⟩,kids⟩:=t;unfold DH ni;dsimp only;obtain ⟨b1,h0,h1,l4⟩:∃ b,(n != 0)=b/\(n != 0)=b/\(n == 0)=!b:=⟨_,rfl,rfl,by simp [bne]⟩;obtain ⟨b2,g0,h2,mD⟩:∃ b,(m != 0)=b/\(m != 0)=b/\(m == 0)=!b:=⟨_,rfl,rfl,by simp [bne]⟩;obtain ⟨b3,f0,h3,vw⟩:∃ b,(!(nm == []))=b/\HP .neq nm []=some (.bool b)/\HP .eql nm []=some (.bool (!b)):=⟨_,rfl,rfl,by rw [y'];rfl⟩;obtain ⟨b4,e0,h4⟩:∃ b,(!(qc (vk,vn,vs) (0,0,[])))=b/\QG CC 100 30 (.agg [.int .i64 vk,.int .i64 vn,.str vs]) (.agg [.int .i64 0,.int .i64 0,.str []])=some (!b):=⟨_,rfl,by rw [nf,y'];rfl⟩;obtain ⟨b5,d0,h5⟩:∃ b,(!(qt (dv,cl,at_) (0,[],[])))=b/\QG CC 100 32 (.agg [.int .i64 dv,.str cl,.str at_]) (.agg [.int .i64 0,.str [],.str []])=some (!b):=⟨_,rfl,by rw [jN,y'];rfl⟩;rw [h0,g0,f0,e0,d0];clear h0 g0 f0 e0 d0;have vz:HP .neq [] []=some (.bool false):=rfl;have me:HP .eql [] []=some (.bool true):=rfl
 have hk:(k=1\/k=2\/k=3\/k=4\/k=5\/k=15)\/((k == 1)=false/\(k == 2)=false/\(k == 3)=false/\(k == 4)=false/\(k == 5)=false/\(k == 15)=false):=by
  simp only [beq_eq_false_iff_ne];omega
 generalize BS kids=xs;rw [Ah (fn:=zd) (c:=zd.body.getD .skip) rfl rfl Uy rfl Xb (yY rfl)];rw [<- Am];simp only [Aa,Ac,zd,yW];rcases hk with hk | ⟨k1,k2,k3,k4,k5,k6⟩
 · rcases hk with rfl | rfl | rfl | rfl | rfl | rfl
   all_goals cases b1 <;> cases b2 <;> cases b3 <;> cases b4 <;> cases b5
   all_goals
    simp only [S9,Ag,seval,sF,Ok,Ol,Mn,Mo,ng,nh,y5,y6,h1,l4,h2,mD,h3,vw,vz,me,h4,h5];exact ⟨_,rfl⟩
 · cases b1 <;> cases b2 <;> cases b3 <;> cases b4 <;> cases b5
   all_goals
    simp only [S9,Ag,seval,sF,Ok,Ol,Mn,Mo,ng,nh,y5,y6,h1,l4,h2,mD,h3,vw,vz,me,h4,h5,k1,k2,k3,k4,k5,k6,wC];exact ⟨_,rfl⟩
theorem Xc (t:Tr) (bx):Ak CC (Ae CC) 123 [DH t] bx=some (.ret (.bool (!(ni t))),bx):=by
 obtain ⟨b,h⟩:=Su t;exact Ax rfl (by simp only [BE,Bs,CZ,y4]) h rfl
theorem Xd:Bk CC y0 (y0.body.getD .skip)=true:=by kernel_rfl
theorem UA:CC.P.funcs[109]?=some y0:=by kernel_rfl
theorem Co {x:List PV} {b:List PBox} (h:x.length.ble y0.ntmps=true):Ae CC 109 x b=CB CC y0.results.toList (Cp CC (y0.body.getD .skip) ⟨x,b⟩):=Ah (fn:=y0) (c:=y0.body.getD .skip) rfl rfl UA rfl Xd (yY h)
theorem Sv:Bk CC yZ (yZ.body.getD .skip)=true:=by kernel_rfl
theorem QP:CC.P.funcs[111]?=some yZ:=by kernel_rfl
theorem DW {x:List PV} {b:List PBox} (h:x.length.ble yZ.ntmps=true):Ae CC 111 x b=CB CC yZ.results.toList (Cp CC (yZ.body.getD .skip) ⟨x,b⟩):=Ah (fn:=yZ) (c:=yZ.body.getD .skip) rfl rfl QP rfl Sv (yY h)
theorem Xe:Bk CC y1 (y1.body.getD .skip)=true:=by kernel_rfl
theorem UB:CC.P.funcs[86]?=some y1:=by kernel_rfl
def Ii (k n:Int):Bool:=if k=6 then n == 1 else if k=7\/k=8 then decide (2<=n) && decide (n<=8) else if 9<=k/\k<=13 then n == 2 else if k=14 then n == 3 else n == 0
def FW (k n m dv:Int):Bool:=if k=4 then decide (0<=n/\n < 1440/\0<=m/\m < 1440) else if k=5 then decide (1<=n/\n<=127) else if k=15 then decide (0<=n/\n<=4) else if k=2 then decide (1<=dv/\dv<=250) else true
def iM:Tr->Int
 | .mk k n m nm v key kids=>if k < 1\/15 < k then 7 else if Ii k kids.length=false\/ni (.mk k n m nm v key kids)=true then 1 else if FW k n m key.1=false then 2 else
  if k=3 then (if Fo nm then 0 else 10) else if k=2 then (if Fo key.2.1 && Fo key.2.2 then 0 else 10) else if k=1 then (if MW v≠0 then MW v else if v.1=0 then 7 else 0) else 0
theorem Zl (n:Int):∃ bx,Ae CC 109 [.int .i64 6,.int .i64 n] []=some (.ret (.bool (Ii 6 n)),bx):=by
 rw [Co rfl];have hlen:True:=trivial;rw [show Ii 6 n=(n == 1) by simp [Ii]];rw [<- Am];simp only [Aa,Ac,y0,yW];simp only [S8,Ag,SG,seval,UT,SC,hlen];exact ⟨_,rfl⟩
theorem Zm (n:Int):∃ bx,Ae CC 109 [.int .i64 7,.int .i64 n] []=some (.ret (.bool (Ii 7 n)),bx):=by
 rw [Co rfl];have hlen:True:=trivial;by_cases c1:n ≥ 2
 · by_cases c2:n<=8
   · rw [show Ii 7 n=true by simp [Ii];omega]
     rw [<- Am];simp only [Aa,Ac,y0,yW];simp only [S8,Ag,SG,seval,UT,SC,hlen,c1,c2];exact ⟨_,rfl⟩
   · rw [show Ii 7 n=false by simp [Ii];omega]
     rw [<- Am];simp only [Aa,Ac,y0,yW];simp only [S8,Ag,SG,seval,UT,SC,hlen,c1,c2];exact ⟨_,rfl⟩
 · rw [show Ii 7 n=false by simp [Ii];omega]
   rw [<- Am];simp only [Aa,Ac,y0,yW];simp only [S8,Ag,SG,seval,UT,SC,hlen,c1];exact ⟨_,rfl⟩
theorem Zn (n:Int):∃ bx,Ae CC 109 [.int .i64 8,.int .i64 n] []=some (.ret (.bool (Ii 8 n)),bx):=by
 rw [Co rfl];have hlen:True:=trivial;by_cases c1:n ≥ 2
 · by_cases c2:n<=8
   · rw [show Ii 8 n=true by simp [Ii];omega]
     rw [<- Am];simp only [Aa,Ac,y0,yW];simp only [S8,Ag,SG,seval,UT,SC,hlen,c1,c2];exact ⟨_,rfl⟩
   · rw [show Ii 8 n=false by simp [Ii];omega]
     rw [<- Am];simp only [Aa,Ac,y0,yW];simp only [S8,Ag,SG,seval,UT,SC,hlen,c1,c2];exact ⟨_,rfl⟩
 · rw [show Ii 8 n=false by simp [Ii];omega]
   rw [<- Am];simp only [Aa,Ac,y0,yW];simp only [S8,Ag,SG,seval,UT,SC,hlen,c1];exact ⟨_,rfl⟩
theorem Zo (n:Int):∃ bx,Ae CC 109 [.int .i64 9,.int .i64 n] []=some (.ret (.bool (Ii 9 n)),bx):=by
 rw [Co rfl];have hlen:True:=trivial;rw [show Ii 9 n=(n == 2) by simp [Ii]];rw [<- Am];simp only [Aa,Ac,y0,yW];simp only [S8,Ag,SG,seval,UT,SC,hlen];exact ⟨_,rfl⟩
theorem Xf (n:Int):∃ bx,Ae CC 109 [.int .i64 10,.int .i64 n] []=some (.ret (.bool (Ii 10 n)),bx):=by
 rw [Co rfl];have hlen:True:=trivial;rw [show Ii 10 n=(n == 2) by simp [Ii]];rw [<- Am];simp only [Aa,Ac,y0,yW];simp only [S8,Ag,SG,seval,UT,SC,hlen];exact ⟨_,rfl⟩
theorem Xg (n:Int):∃ bx,Ae CC 109 [.int .i64 11,.int .i64 n] []=some (.ret (.bool (Ii 11 n)),bx):=by
 rw [Co rfl];have hlen:True:=trivial;rw [show Ii 11 n=(n == 2) by simp [Ii]];rw [<- Am];simp only [Aa,Ac,y0,yW];simp only [S8,Ag,SG,seval,UT,SC,hlen];exact ⟨_,rfl⟩
theorem Xh (n:Int):∃ bx,Ae CC 109 [.int .i64 12,.int .i64 n] []=some (.ret (.bool (Ii 12 n)),bx):=by
 rw [Co rfl];have hlen:True:=trivial;rw [show Ii 12 n=(n == 2) by simp [Ii]];rw [<- Am];simp only [Aa,Ac,y0,yW];simp only [S8,Ag,SG,seval,UT,SC,hlen];exact ⟨_,rfl⟩
theorem Xi (n:Int):∃ bx,Ae CC 109 [.int .i64 13,.int .i64 n] []=some (.ret (.bool (Ii 13 n)),bx):=by
 rw [Co rfl];have hlen:True:=trivial;rw [show Ii 13 n=(n == 2) by simp [Ii]];rw [<- Am];simp only [Aa,Ac,y0,yW];simp only [S8,Ag,SG,seval,UT,SC,hlen];exact ⟨_,rfl⟩
theorem Xj (n:Int):∃ bx,Ae CC 109 [.int .i64 14,.int .i64 n] []=some (.ret (.bool (Ii 14 n)),bx):=by
 rw [Co rfl];have hlen:True:=trivial;rw [show Ii 14 n=(n == 3) by simp [Ii]];rw [<- Am];simp only [Aa,Ac,y0,yW];simp only [S8,Ag,SG,seval,UT,SC,hlen];exact ⟨_,rfl⟩
theorem Zp (k n:Int) (hk6:(k == 6)=false) (pZ:(k == 7)=false) (hk8:(k == 8)=false) (hk9:(k == 9)=false) (hk10:(k == 10)=false) (hk11:(k == 11)=false) (hk12:(k == 12)=false) (hk13:(k == 13)=false) (hk14:(k == 14)=false) (hd:Ii k n=(n == 0)):∃ bx,Ae CC 109 [.int .i64 k,.int .i64 n] []=some (.ret (.bool (Ii k n)),bx):=by
 rw [Co rfl];have hlen:True:=trivial;rw [hd];rw [<- Am];simp only [Aa,Ac,y0,yW];simp only [S8,Ag,SG,seval,UT,SC,hlen,hk6,pZ,hk8,hk9,hk10,hk11,hk12,hk13,hk14];exact ⟨_,rfl⟩
theorem Sw (k n:Int):∃ bx,Ae CC 109 [.int .i64 k,.int .i64 n] []=some (.ret (.bool (Ii k n)),bx):=by
 by_cases c6:k=6
 · subst c6
   exact Zl n
 by_cases c7:k=7
 · subst c7
   exact Zm n
 by_cases c8:k=8
 · subst c8
   exact Zn n
 by_cases c9:k=9
 · subst c9
   exact Zo n
 by_cases c10:k=10
 · subst c10
   exact Xf n
 by_cases c11:k=11
 · subst c11
   exact Xg n
 by_cases c12:k=12
 · subst c12
   exact Xh n
 by_cases c13:k=13
 · subst c13
   exact Xi n
 by_cases c14:k=14
 · subst c14
   exact Xj n
 refine Zp k n (by simpa using c6) (by simpa using c7) (by simpa using c8) (by simpa using c9) (by simpa using c10) (by simpa using c11) (by simpa using c12) (by simpa using c13) (by simpa using c14) ?_;unfold Ii;rw [if_neg c6,if_neg (by omega),if_neg (by omega),if_neg c14]
theorem Xk (k n:Int) (bx):Ak CC (Ae CC) 109 [.int .i64 k,.int .i64 n] bx=some (.ret (.bool (Ii k n)),bx):=by
 obtain ⟨b,h⟩:=Sw k n;exact Ax rfl (by simp only [SA,zf]) h rfl
theorem UC (n m:Int) (nm:List UInt8) (vk vn:Int) (vs:List UInt8) (dv:Int) (cl at_:List UInt8) (xs:List PV):∃ bx,Ae CC 111 [.agg [.int .i64 4,.int .i64 n,.int .i64 m,.str nm,.int .i64 vk,.int .i64 vn,.str vs,.int .i64 dv,.str cl,.str at_,.sl xs]] []=some (.ret (.bool (FW 4 n m dv)),bx):=by
 rw [DW rfl];have hlen:True:=trivial;by_cases c0:n ≥ 0
 · by_cases c1:n < 1440
   · by_cases c2:m ≥ 0
     · by_cases c3:m < 1440
       · rw [show FW 4 n m dv=true by simp [FW];omega]
         rw [<- Am];simp only [Aa,Ac,yZ,yW];simp only [S8,Ag,SG,seval,UT,SC,hlen,c0,c1,c2,c3];exact ⟨_,rfl⟩
       · rw [show FW 4 n m dv=false by simp [FW];omega]
         rw [<- Am];simp only [Aa,Ac,yZ,yW];simp only [S8,Ag,SG,seval,UT,SC,hlen,c0,c1,c2,c3];exact ⟨_,rfl⟩
     · rw [show FW 4 n m dv=false by simp [FW];omega]
       rw [<- Am];simp only [Aa,Ac,yZ,yW];simp only [S8,Ag,SG,seval,UT,SC,hlen,c0,c1,c2];exact ⟨_,rfl⟩
   · rw [show FW 4 n m dv=false by simp [FW];omega]
     rw [<- Am];simp only [Aa,Ac,yZ,yW];simp only [S8,Ag,SG,seval,UT,SC,hlen,c0,c1];exact ⟨_,rfl⟩
 · rw [show FW 4 n m dv=false by simp [FW];omega]
   rw [<- Am];simp only [Aa,Ac,yZ,yW];simp only [S8,Ag,SG,seval,UT,SC,hlen,c0];exact ⟨_,rfl⟩
theorem UD (n m:Int) (nm:List UInt8) (vk vn:Int) (vs:List UInt8) (dv:Int) (cl at_:List UInt8) (xs:List PV):∃ bx,Ae CC 111 [.agg [.int .i64 5,.int .i64 n,.int .i64 m,.str nm,.int .i64 vk,.int .i64 vn,.str vs,.int .i64 dv,.str cl,.str at_,.sl xs]] []=some (.ret (.bool (FW 5 n m dv)),bx):=by
 rw [DW rfl];have hlen:True:=trivial;by_cases c0:n ≥ 1
 · by_cases c1:n<=127
   · rw [show FW 5 n m dv=true by simp [FW];omega]
     rw [<- Am];simp only [Aa,Ac,yZ,yW];simp only [S8,Ag,SG,seval,UT,SC,hlen,c0,c1];exact ⟨_,rfl⟩
   · rw [show FW 5 n m dv=false by simp [FW];omega]
     rw [<- Am];simp only [Aa,Ac,yZ,yW];simp only [S8,Ag,SG,seval,UT,SC,hlen,c0,c1];exact ⟨_,rfl⟩
 · rw [show FW 5 n m dv=false by simp [FW];omega]
   rw [<- Am];simp only [Aa,Ac,yZ,yW];simp only [S8,Ag,SG,seval,UT,SC,hlen,c0];exact ⟨_,rfl⟩
theorem Sx (n m:Int) (nm:List UInt8) (vk vn:Int) (vs:List UInt8) (dv:Int) (cl at_:List UInt8) (xs:List PV):∃ bx,Ae CC 111 [.agg [.int .i64 15,.int .i64 n,.int .i64 m,.str nm,.int .i64 vk,.int .i64 vn,.str vs,.int .i64 dv,.str cl,.str at_,.sl xs]] []=some (.ret (.bool (FW 15 n m dv)),bx):=by
 rw [DW rfl];have hlen:True:=trivial;by_cases c0:n ≥ 0
 · by_cases c1:n<=4
   · rw [show FW 15 n m dv=true by simp [FW];omega]
     rw [<- Am];simp only [Aa,Ac,yZ,yW];simp only [S8,Ag,SG,seval,UT,SC,hlen,c0,c1];exact ⟨_,rfl⟩
   · rw [show FW 15 n m dv=false by simp [FW];omega]
     rw [<- Am];simp only [Aa,Ac,yZ,yW];simp only [S8,Ag,SG,seval,UT,SC,hlen,c0,c1];exact ⟨_,rfl⟩
 · rw [show FW 15 n m dv=false by simp [FW];omega]
   rw [<- Am];simp only [Aa,Ac,yZ,yW];simp only [S8,Ag,SG,seval,UT,SC,hlen,c0];exact ⟨_,rfl⟩
theorem UE (n m:Int) (nm:List UInt8) (vk vn:Int) (vs:List UInt8) (dv:Int) (cl at_:List UInt8) (xs:List PV):∃ bx,Ae CC 111 [.agg [.int .i64 2,.int .i64 n,.int .i64 m,.str nm,.int .i64 vk,.int .i64 vn,.str vs,.int .i64 dv,.str cl,.str at_,.sl xs]] []=some (.ret (.bool (FW 2 n m dv)),bx):=by
 rw [DW rfl];have hlen:True:=trivial;by_cases c0:dv ≥ 1
 · by_cases c1:dv<=250
   · rw [show FW 2 n m dv=true by simp [FW];omega]
     rw [<- Am];simp only [Aa,Ac,yZ,yW];simp only [S8,Ag,SG,seval,UT,SC,hlen,c0,c1];exact ⟨_,rfl⟩
   · rw [show FW 2 n m dv=false by simp [FW];omega]
     rw [<- Am];simp only [Aa,Ac,yZ,yW];simp only [S8,Ag,SG,seval,UT,SC,hlen,c0,c1];exact ⟨_,rfl⟩
 · rw [show FW 2 n m dv=false by simp [FW];omega]
   rw [<- Am];simp only [Aa,Ac,yZ,yW];simp only [S8,Ag,SG,seval,UT,SC,hlen,c0];exact ⟨_,rfl⟩
theorem UF (k:Int) (bw:(k == 4)=false) (hk5:(k == 5)=false) (hk15:(k == 15)=false) (iC:(k == 2)=false) (n m:Int) (nm:List UInt8) (vk vn:Int) (vs:List UInt8) (dv:Int) (cl at_:List UInt8) (xs:List PV) (hd:FW k n m dv=true):∃ bx,Ae CC 111 [.agg [.int .i64 k,.int .i64 n,.int .i64 m,.str nm,.int .i64 vk,.int .i64 vn,.str vs,.int .i64 dv,.str cl,.str at_,.sl xs]] []=some (.ret (.bool (FW k n m dv)),bx):=by
 rw [DW rfl];have hlen:True:=trivial;rw [hd];rw [<- Am];simp only [Aa,Ac,yZ,yW];simp only [S8,Ag,SG,seval,UT,SC,hlen,bw,hk5,hk15,iC];exact ⟨_,rfl⟩
def vQ:Tr->Bool
 | .mk k n m nm v key kids=>FW k n m key.1
theorem Pu (t:Tr):∃ bx,Ae CC 111 [DH t] []=some (.ret (.bool (vQ t)),bx):=by
 obtain ⟨k,n,m,nm,v,key,kids⟩:=t;obtain ⟨vk,vn,vs⟩:=v;obtain ⟨dv,cl,at_⟩:=key;unfold DH vQ;by_cases c4:k=4
 · subst c4
   exact UC n m nm vk vn vs dv cl at_ (BS kids)
 by_cases c5:k=5
 · subst c5
   exact UD n m nm vk vn vs dv cl at_ (BS kids)
 by_cases c15:k=15
 · subst c15
   exact Sx n m nm vk vn vs dv cl at_ (BS kids)
 by_cases c2:k=2
 · subst c2
   exact UE n m nm vk vn vs dv cl at_ (BS kids)
 refine UF k (by simpa using c4) (by simpa using c5) (by simpa using c15) (by simpa using c2) n m nm vk vn vs dv cl at_ (BS kids) ?_;unfold FW;rw [if_neg c4,if_neg c5,if_neg c15,if_neg c2]
theorem Sy (t:Tr) (bx):Ak CC (Ae CC) 111 [DH t] bx=some (.ret (.bool (vQ t)),bx):=by
 obtain ⟨b,h⟩:=Pu t;exact Ax rfl (by simp only [BE,Bs,CZ,y4]) h rfl
def tI:Tr->Prop
 | .mk k n m nm v key kids=>nm.length<=100/\v.2.2.length<=100/\key.2.1.length<=100/\key.2.2.length<=100
theorem Sz (t:Tr) (hs:tI t):∃ bx,Ae CC 86 [DH t] []=some (.ret (.int .i64 (iM t)),bx):=by
 obtain ⟨k,n,m,nm,v,key,kids⟩:=t;have osp:=Uz (.mk k n m nm v key kids);have org:=Sy (.mk k n m nm v key kids);have okd:=Xk k kids.length;have ock:=Sk v;obtain ⟨vk,vn,vs⟩:=v;obtain ⟨dv,cl,at_⟩:=key;obtain ⟨s1,s2,s3,s4⟩:=hs;simp only at s1 s2 s3 s4;have ov1:=F7 nm (by omega);have ov2:=F7 cl (by omega);have ov3:=F7 at_ (by omega);have EL:=DC kids;unfold DH at osp org |-;unfold N6 at ock;unfold iM;unfold vQ at org;simp only at osp org ock |-;rw [Ah (fn:=y1) (c:=y1.body.getD .skip) rfl rfl UB rfl Xe (yY rfl)];have hlen:True:=trivial;generalize Ii k kids.length=b1 at *;generalize ni (.mk k n m nm (vk,vn,vs) (dv,cl,at_) kids)=b2 at *;generalize FW k n m dv=b3 at *;generalize Fo nm=b4 at *;generalize Fo cl=b5 at *;generalize Fo at_=b6 at *;generalize MW (vk,vn,vs)=ck at *;generalize BS kids=xs at *;by_cases c1:k < 1
 · rw [if_pos (by omega)]
   rw [<- Am];rw [<- AK] at osp org okd ock ov1 ov2 ov3;simp only [Aa,Ac,y1,yW];simp only [S8,Ag,SG,seval,UT,SC,hlen,EL,osp,org,okd,ock,ov1,ov2,ov3,c1];exact ⟨_,rfl⟩
 by_cases c2:k > 15
 · rw [if_pos (by omega)]
   rw [<- Am];rw [<- AK] at osp org okd ock ov1 ov2 ov3;simp only [Aa,Ac,y1,yW];simp only [S8,Ag,SG,seval,UT,SC,hlen,EL,osp,org,okd,ock,ov1,ov2,ov3,c1,c2];exact ⟨_,rfl⟩
 cases b1 with
 | false=>
  rw [if_neg (by omega),if_pos (.inl rfl)];rw [<- Am];rw [<- AK] at osp org okd ock ov1 ov2 ov3;simp only [Aa,Ac,y1,yW];simp only [S8,Ag,SG,seval,UT,SC,hlen,EL,osp,org,okd,ock,ov1,ov2,ov3,c1,c2];exact ⟨_,rfl⟩
 | true=>
  cases b2 with
  | true=>
   rw [if_neg (by omega),if_pos (.inr rfl)];rw [<- Am];rw [<- AK] at osp org okd ock ov1 ov2 ov3;simp only [Aa,Ac,y1,yW];simp only [S8,Ag,SG,seval,UT,SC,hlen,EL,osp,org,okd,ock,ov1,ov2,ov3,c1,c2];exact ⟨_,rfl⟩
  | false=>
   cases b3 with
   | false=>
    rw [if_neg (by omega),if_neg (by simp),if_pos rfl];rw [<- Am];rw [<- AK] at osp org okd ock ov1 ov2 ov3;simp only [Aa,Ac,y1,yW];simp only [S8,Ag,SG,seval,UT,SC,hlen,EL,osp,org,okd,ock,ov1,ov2,ov3,c1,c2];exact ⟨_,rfl⟩
   | true=>
    by_cases d3:k=3
    · subst d3
      cases b4 with
      | false=>
       rw [if_neg (by omega),if_neg (by simp),if_neg (by simp),if_pos rfl,if_neg (by simp)];rw [<- Am];rw [<- AK] at osp org okd ock ov1 ov2 ov3;simp only [Aa,Ac,y1,yW];simp only [S8,Ag,SG,seval,UT,SC,hlen,EL,osp,org,okd,ock,ov1,ov2,ov3,c1,c2];exact ⟨_,rfl⟩
      | true=>
       rw [if_neg (by omega),if_neg (by simp),if_neg (by simp),if_pos rfl,if_pos rfl];rw [<- Am];rw [<- AK] at osp org okd ock ov1 ov2 ov3;simp only [Aa,Ac,y1,yW];simp only [S8,Ag,SG,seval,UT,SC,hlen,EL,osp,org,okd,ock,ov1,ov2,ov3,c1,c2];exact ⟨_,rfl⟩
    · by_cases d2:k=2
      · subst d2
        cases b5 with
        | false=>
         rw [if_neg (by omega),if_neg (by simp),if_neg (by simp),if_neg (by omega),if_pos rfl,if_neg (by simp)];rw [<- Am];rw [<- AK] at osp org okd ock ov1 ov2 ov3;simp only [Aa,Ac,y1,yW];simp only [S8,Ag,SG,seval,UT,SC,hlen,EL,osp,org,okd,ock,ov1,ov2,ov3,c1,c2];exact ⟨_,rfl⟩
        | true=>
         cases b6 with
         | false=>
          rw [if_neg (by omega),if_neg (by simp),if_neg (by simp),if_neg (by omega),if_pos rfl,if_neg (by simp)];rw [<- Am];rw [<- AK] at osp org okd ock ov1 ov2 ov3;simp only [Aa,Ac,y1,yW];simp only [S8,Ag,SG,seval,UT,SC,hlen,EL,osp,org,okd,ock,ov1,ov2,ov3,c1,c2];exact ⟨_,rfl⟩
         | true=>
          rw [if_neg (by omega),if_neg (by simp),if_neg (by simp),if_neg (by omega),if_pos rfl,if_pos (by simp)];rw [<- Am];rw [<- AK] at osp org okd ock ov1 ov2 ov3;simp only [Aa,Ac,y1,yW];simp only [S8,Ag,SG,seval,UT,SC,hlen,EL,osp,org,okd,ock,ov1,ov2,ov3,c1,c2];exact ⟨_,rfl⟩
      · by_cases d1:k=1
        · subst d1
          by_cases e1:ck=0
          · subst e1
            by_cases e2:vk=0
            · subst e2
              rw [if_neg (by omega),if_neg (by simp),if_neg (by simp),if_neg (by omega),if_neg (by omega),if_pos rfl,if_neg (by simp),if_pos rfl];rw [<- Am];rw [<- AK] at osp org okd ock ov1 ov2 ov3;simp only [Aa,Ac,y1,yW];simp only [S8,Ag,SG,seval,UT,SC,hlen,EL,osp,org,okd,ock,ov1,ov2,ov3,c1,c2];exact ⟨_,rfl⟩
            · have e2p:(vk == 0)=false:=by simpa using e2
              rw [if_neg (by omega),if_neg (by simp),if_neg (by simp),if_neg (by omega),if_neg (by omega),if_pos rfl,if_neg (by simp),if_neg e2];rw [<- Am];rw [<- AK] at osp org okd ock ov1 ov2 ov3;simp only [Aa,Ac,y1,yW];simp only [S8,Ag,SG,seval,UT,SC,hlen,EL,osp,org,okd,ock,ov1,ov2,ov3,c1,c2,e2p];exact ⟨_,rfl⟩
          · have e1p:(ck != 0)=true:=by simpa using e1
            rw [if_neg (by omega),if_neg (by simp),if_neg (by simp),if_neg (by omega),if_neg (by omega),if_pos rfl,if_pos e1];rw [<- Am];rw [<- AK] at osp org okd ock ov1 ov2 ov3;simp only [Aa,Ac,y1,yW];simp only [S8,Ag,SG,seval,UT,SC,hlen,EL,osp,org,okd,ock,ov1,ov2,ov3,c1,c2,e1p];exact ⟨_,rfl⟩
        · have d1p:(k == 1)=false:=by simpa using d1
          have d2p:(k == 2)=false:=by simpa using d2
          have d3p:(k == 3)=false:=by simpa using d3
          rw [if_neg (by omega),if_neg (by simp),if_neg (by simp),if_neg d3,if_neg d2,if_neg d1];rw [<- Am];rw [<- AK] at osp org okd ock ov1 ov2 ov3;simp only [Aa,Ac,y1,yW];simp only [S8,Ag,SG,seval,UT,SC,hlen,EL,osp,org,okd,ock,ov1,ov2,ov3,c1,c2,d1p,d2p,d3p];exact ⟨_,rfl⟩
theorem Xl (t:Tr) (hs:tI t) (bx):Ak CC (Ae CC) 86 [DH t] bx=some (.ret (.int .i64 (iM t)),bx):=by
 obtain ⟨b,h⟩:=Sz t hs;exact Ax rfl (by simp only [BE,Bs,CZ,y4]) h rfl
theorem UG:Bk CC zi (zi.body.getD .skip)=true:=by kernel_rfl
theorem SI:CC.P.funcs[53]?=some zi:=by kernel_rfl
theorem Xm:Bk CC zg (zg.body.getD .skip)=true:=by kernel_rfl
theorem UH:CC.P.funcs[84]?=some zg:=by kernel_rfl
theorem QQ:Bk CC za (za.body.getD .skip)=true:=by kernel_rfl
theorem Pv:CC.P.funcs[85]?=some za:=by kernel_rfl
theorem SJ:Bk CC y2 (y2.body.getD .skip)=true:=by kernel_rfl
theorem QR:CC.P.funcs[108]?=some y2:=by kernel_rfl
theorem IC {x:List PV} {b:List PBox} (h:x.length.ble y2.ntmps=true):Ae CC 108 x b=CB CC y2.results.toList (Cp CC (y2.body.getD .skip) ⟨x,b⟩):=Ah (fn:=y2) (c:=y2.body.getD .skip) rfl rfl QR rfl SJ (yY h)
mutual
def UI:Tr->Int->Int->Int×Int
 | .mk k n m nm v key kids,lv,b=>if 24 < lv then (b,22) else if 200<=b then (b,3) else if iM (.mk k n m nm v key kids)≠0 then (b,iM (.mk k n m nm v key kids)) else Np kids (lv+1) (b+1)
def Np:List Tr->Int->Int->Int×Int
 | [],_,b=>(b,0)
 | t :: r,lv,b=>if (UI t lv b).2≠0 then UI t lv b else Np r lv (UI t lv b).1
end
mutual
def Fi:Tr->Prop
 | .mk k n m nm v key kids=>(nm.length<=100/\v.2.2.length<=100/\key.2.1.length<=100/\key.2.2.length<=100/\kids.length<=12)/\E1 kids
def E1:List Tr->Prop
 | []=>True
 | t :: r=>Fi t/\E1 r
end
theorem jO {t:Tr} (h:Fi t):tI t:=by
 obtain ⟨k,n,m,nm,v,key,kids⟩:=t;unfold Fi at h;exact ⟨h.1.1,h.1.2.1,h.1.2.2.1,h.1.2.2.2.1⟩
theorem tJ:(∃ a b v,CC.P.underlying 105=some (.func a b v))/\tAgg CC 105=false/\tSize CC 105=some 1/\zeroCells CC 105=some [.nilf]:=
 ⟨⟨(match zl.underlying 105 with | some (.func a _ _)=>a | _=>#[]),(match zl.underlying 105 with | some (.func _ b _)=>b | _=>#[]),(match zl.underlying 105 with | some (.func _ _ v)=>v | _=>false),by kernel_rfl⟩,by kernel_rfl,by kernel_rfl,by kernel_rfl⟩
def Rx (b:PBox):Prop:=∃ t cs,b=.cells t cs/\Aq cs=true
def Vb:PBox:=.cells 105 [.fn 85 [] [.bp 2 0,.bp 1 0]]
def Sb:PBox:=.cells 105 [.fn 108 [] [.bp 4 0,.bp 5 0]]
def B6 (b0 b3:PBox) (f c:Int) (r:List PBox):List PBox:=b0 :: .cells 24 [.int .i64 f] :: .cells 3 [.int .i64 c] :: b3 :: Vb :: Sb :: r
section
variable (b0 b3:PBox) (f c:Int) (r:List PBox)
theorem H3:(B6 b0 b3 f c r).length=r.length+6:=rfl
theorem UJ:(B6 b0 b3 f c r)[1]?=some (.cells 24 [.int .i64 f]):=rfl
theorem UK:(B6 b0 b3 f c r)[2]?=some (.cells 3 [.int .i64 c]):=rfl
theorem UL:(B6 b0 b3 f c r)[4]?=some Vb:=rfl
theorem UM:(B6 b0 b3 f c r)[5]?=some Sb:=rfl
theorem IW (x:PBox):B6 b0 b3 f c r++[x]=B6 b0 b3 f c (r++[x]):=rfl
theorem MX (f':Int):(B6 b0 b3 f c r).set 1 (.cells 24 [.int .i64 f'])=B6 b0 b3 f' c r:=rfl
theorem MY (c':Int):(B6 b0 b3 f c r).set 2 (.cells 3 [.int .i64 c'])=B6 b0 b3 f c' r:=rfl
theorem GN (x:PBox):(B6 b0 b3 f c (r++[x]))[r.length+6]?=some x:=by
 show (r++[x])[r.length]?=some x;rw [List.getElem?_concat_length]
theorem MZ (x y:PBox):(B6 b0 b3 f c (r++[x])).set (r.length+6) y=B6 b0 b3 f c (r++[y]):=by
 show b0 :: .cells 24 [.int .i64 f] :: .cells 3 [.int .i64 c] :: b3 :: Vb :: Sb :: (r++[x]).set r.length y=_;rw [List.set_append_right _ _ (Nat.le_refl _),Nat.sub_self];rfl
end
mutual
theorem SK (n:Nat) (v:PV) (h:v.pure=true):v.under n=true:=by
 match v with
 | .top=>simp [PV.pure] at h
 | .bp _ _=>simp [PV.pure] at h
 | .sl xs=>unfold PV.pure at h;unfold PV.under;exact DD n xs h
 | .osl _ xs=>unfold PV.pure at h;unfold PV.under;exact DD n xs h
 | .ip xs=>unfold PV.pure at h;unfold PV.under;exact DD n xs h
 | .agg xs=>unfold PV.pure at h;unfold PV.under;exact DD n xs h
 | .tup xs=>unfold PV.pure at h;unfold PV.under;exact DD n xs h
 | .fn _ a b=>
  unfold PV.pure at h;unfold PV.under;rw [y8] at h |-;exact ⟨DD n a h.1,DD n b h.2⟩
 | .iface _ v=>unfold PV.pure at h;unfold PV.under;exact SK n v h
 | .bool _=>simp [PV.under]
 | .int _ _=>simp [PV.under]
 | .str _=>simp [PV.under]
 | .nils=>simp [PV.under]
 | .nilp=>simp [PV.under]
 | .nilf=>simp [PV.under]
 | .nili=>simp [PV.under]
theorem DD (n:Nat) (l:List PV) (h:Aq l=true):Au n l=true:=by
 match l with
 | []=>simp [Au]
 | v :: r=>
  unfold Aq at h;unfold Au;rw [y8] at h |-;exact ⟨SK n v h.1,DD n r h.2⟩
end
theorem Rx.under {b:PBox} (h:Rx b) (n:Nat):b.under n=true:=by
 obtain ⟨t,cs,rfl,hp⟩:=h;exact DD n cs hp
theorem Rx.tr (t:Tr):Rx (.cells 35 (DH t).cells):=by
 refine ⟨_,_,rfl,?_⟩;have h:=Bs t;obtain ⟨k,n,m,nm,v,key,kids⟩:=t;unfold DH at h |-;unfold PV.pure at h;exact h
theorem jP {b0 b3:PBox} {f c:Int} {r ex:List PBox} (h0:Rx b0) (h3:Rx b3) (hr:∀ x ∈ r,Rx x) (b:Bool):Fl (r.length+6) (.ret (.bool b)) (B6 b0 b3 f c (r++ex))=B6 b0 b3 f c r:=by
 have ht:(B6 b0 b3 f c (r++ex)).take (r.length+6)=B6 b0 b3 f c r:=by
  show List.take (r.length+6) (b0 :: .cells 24 [.int .i64 f] :: .cells 3 [.int .i64 c] :: b3 :: Vb :: Sb :: (r++ex))=_;simp only [List.take_succ_cons,List.take_left'];rfl
 unfold Fl;rw [ht,if_pos];rw [y8];refine ⟨by simp [CR.under,PV.under],?_⟩;show (b0 :: .cells 24 [.int .i64 f] :: .cells 3 [.int .i64 c] :: b3 :: Vb :: Sb :: r).all _=true;rw [zn];intro x hx;rcases y7.1 hx with rfl | hx
 · exact h0.under _
 rcases y7.1 hx with rfl | hx
 · rfl
 rcases y7.1 hx with rfl | hx
 · rfl
 rcases y7.1 hx with rfl | hx
 · exact h3.under _
 rcases y7.1 hx with rfl | hx
 · simp [Vb,PBox.under,Au,PV.under]
 rcases y7.1 hx with rfl | hx
 · simp [Sb,PBox.under,Au,PV.under]
 exact (hr x hx).under _
theorem SL {f:FuncId} {args:List PV} {b0 b3:PBox} {fo c fo' c':Int} {r ex:List PBox} {b:Bool} (hp:Aq args=false) (h0:Rx b0) (h3:Rx b3) (hr:∀ x ∈ r,Rx x)
 (h:Ae CC f args (B6 b0 b3 fo c r)=some (.ret (.bool b),B6 b0 b3 fo' c' (r++ex))):Ak CC (Ae CC) f args (B6 b0 b3 fo c r)=some (.ret (.bool b),B6 b0 b3 fo' c' r):=by
 unfold Ak;rw [if_pos (by rw [hp];simp),h];simp only [H3];rw [jP h0 h3 hr]
def jQ (t:Tr) (lv c:Int):Int:=if 24 < lv then 22 else if 200<=c then 3 else iM t
theorem cx (t:Tr) (hs:Fi t) (b0 b3:PBox) (f c lv:Int) (r:List PBox) (hc:0<=c) (p2:c<=200) :
 Ae CC 85 [DH t,.int .i64 lv,.bp 2 0,.bp 1 0] (B6 b0 b3 f c r)=some (.ret (.bool (jQ t lv c == 0)),B6 b0 b3 (jQ t lv c) (c+1) (r++[.cells 35 (DH t).cells])):=by
 rw [Ah (fn:=za) (c:=za.body.getD .skip) rfl rfl Pv rfl QQ (yY rfl)];have Un:=Xl t (jO hs);unfold jQ;generalize iM t=nd at *;obtain ⟨k,n,m,nm,v,key,kids⟩:=t;unfold DH at Un |-;have hw:=wrap_i64 (n:=c+1) ⟨by omega,by omega⟩;have hlen:True:=trivial;generalize BS kids=xs at *;by_cases c1:lv > 24
 · rw [if_pos c1]
   rw [<- Am];simp only [Aa,Ac,za,yW];simp only [S9,Ag,seval,hlen,H3,UJ,UK,UL,UM,IW,MX,MY,GN,MZ,Al,hw,c1]
 · rw [if_neg c1]
   by_cases c2:200<=c
   · have c2':c+1 > 200:=by omega
     rw [if_pos c2];rw [<- Am];simp only [Aa,Ac,za,yW];simp only [S9,Ag,seval,hlen,H3,UJ,UK,UL,UM,IW,MX,MY,GN,MZ,Al,hw,c1,c2']
   · have c2':¬ c+1 > 200:=by omega
     rw [if_neg c2];rw [<- Am];rw [<- AK] at Un;simp only [Aa,Ac,za,yW];simp only [S9,Ag,seval,hlen,H3,UJ,UK,UL,UM,IW,MX,MY,GN,MZ,Al,hw,c1,c2',Un]
theorem jR (t:Tr) (hs:Fi t) {b0 b3:PBox} (f c lv:Int) {r:List PBox} (h0:Rx b0) (h3:Rx b3) (hr:∀ x ∈ r,Rx x) (hc:0<=c) (p2:c<=200) :
 Ak CC (Ae CC) 85 [DH t,.int .i64 lv,.bp 2 0,.bp 1 0] (B6 b0 b3 f c r)=some (.ret (.bool (jQ t lv c == 0)),B6 b0 b3 (jQ t lv c) (c+1) r):=
 SL (by simp only [BE,Bs] <;> rfl) h0 h3 hr (cx t hs b0 b3 f c lv r hc p2)
def sG (t:Tr):Prop:=∀ (b0 b3:PBox) (lv f c:Int) (r:List PBox),Rx b0->Rx b3->(∀ x ∈ r,Rx x)->0<=c->c<=200->1<=lv->lv<=25 ->
 ∃ c' ex,Ae CC 108 [DH t,.int .i64 lv,.bp 4 0,.bp 5 0] (B6 b0 b3 f c r)=some (.ret (.bool ((UI t lv c).2 == 0)),B6 b0 b3 (UI t lv c).2 c' (r++ex))/\((UI t lv c).2=0->c'=(UI t lv c).1/\0<=c'/\c'<=200)
def qu (b0 b3:PBox) (r:List PBox) (w:Int×Int) (res:Option (Ex×St)):Prop:=∃ e' c' ex,(w.2=0/\c'=w.1/\0<=c'/\c'<=200/\res=some (.exit 0,⟨e',B6 b0 b3 0 c' (r++ex)⟩))\/(w.2≠0/\res=some (.ret,⟨e',B6 b0 b3 w.2 c' (r++ex)⟩)/\getT e' 6=.bool false)
theorem qu.app {b0 b3:PBox} {r:List PBox} {x:PBox} {w:Int×Int} {res:Option (Ex×St)} (h:qu b0 b3 (r++[x]) w res):qu b0 b3 r w res:=by
 obtain ⟨e',c',ex,h⟩:=h;refine ⟨e',c',[x]++ex,?_⟩;rw [<- List.append_assoc];exact h
theorem gr (L:Code) (hL:L=Aa y2 [1,1,0,1,0]) (b0 b3:PBox) (h0:Rx b0) (h3:Rx b3) (lv:Int) (rR:1<=lv) (se:lv<=24) (l:List Tr) (hl:l.length<=12) (hk:∀ t ∈ l,sG t):∀ (k i:Nat) (e:List PV) (r:List PBox) (c:Int),i+k=l.length->(∀ x ∈ r,Rx x)->0<=c->c<=200 ->
 getT e 1=.int .i64 lv->getT e 3=.bp 5 0->getT e 15=.sl (BS l)->getT e 16=.int .i64 l.length->getT e 17=.int .i64 i->qu b0 b3 r (Np (l.drop i) (lv+1) c) (Cp CC L ⟨e,B6 b0 b3 0 c r⟩):=by
 intro k
 induction k with
 | zero=>
  intro i e r c DF hr hc p2 e1 e3 e15 e16 e17;rw [A0 (Aa y2 [1,1,0,1,0,0]) hL];have hi:¬ ((i:Int) < (l.length:Int)):=by omega
  rw [zk (by omega)];unfold Np;obtain ⟨⟨fa,fb,fv,Pb⟩,mF,mG,iD⟩:=tJ;have hlen:True:=trivial;generalize BS l=xs at *;rw [<- Am];simp only [Aa,Ac,y2,yW];simp only [S9,Ag,seval,hlen,H3,UJ,UK,UL,UM,IW,MX,MY,GN,MZ,Al,e1,e3,e15,e16,e17,hi];exact ⟨_,c,[],.inl ⟨rfl,rfl,hc,p2,by rw [List.append_nil]⟩⟩
 | succ k ih=>
  intro i e r c DF hr hc p2 e1 e3 e15 e16 e17;rw [A0 (Aa y2 [1,1,0,1,0,0]) hL];have hi:((i:Int) < (l.length:Int)):=by omega
  have Qb:¬ ((i:Int) < 0):=by omega
  have KE:l.drop i=(l[i]'(by omega)) :: l.drop (i+1):=zj (by omega);have hx:l[i]?=some (l[i]'(by omega)):=by simp
  have Fq:sG (l[i]'(by omega)):=hk _ (zm _);generalize l[i]'(by omega)=x at *;have Ie:=Sr hx;have EL:=DC l;have N5:=wrap_i64 (n:=(i:Int)+1) ⟨by omega,by omega⟩;have o7:=wrap_i64 (n:=lv+1) ⟨by omega,by omega⟩
  have WL:∀ y ∈ r++[PBox.cells 35 (DH x).cells],Rx y:=by
   intro y hy;rcases zo.1 hy with h | h
   · exact hr y h
   · simp at h;rw [h];exact Rx.tr x
  have key:=fun e c=>ih (i+1) e (r++[PBox.cells 35 (DH x).cells]) c (by omega) WL;have cast1:((i+1:Nat):Int)=(i:Int)+1:=by omega
  rw [cast1] at key;rw [KE];unfold Np;obtain ⟨c',ex,BD,hcnt⟩:=Fq b0 b3 (lv+1) 0 c (r++[PBox.cells 35 (DH x).cells]) h0 h3 WL hc p2 (by omega) (by omega);have A1:=SL (by simp only [BE,Bs] <;> rfl) h0 h3 WL BD;clear BD;generalize UI x (lv+1) c=w at *;obtain ⟨w1,w2⟩:=w;simp only at A1 hcnt |-;have hpx:=Bs x;obtain ⟨⟨fa,fb,fv,Pb⟩,mF,mG,iD⟩:=tJ;have hlen:True:=trivial;obtain ⟨xk,xn,xm,xnm,xv,xkey,xkids⟩:=x;unfold DH at Ie A1 hpx key;generalize BS xkids=ys at *;generalize BS l=xs at *;simp only [SA] at A1 key;by_cases c1:w2=0
  · subst c1
    obtain ⟨rfl,g0,g1⟩:=hcnt rfl;rw [if_neg (by simp)];simp only [BEq.rfl] at A1;apply qu.app;rw [<- Am];rw [<- Am] at key;rw [<- AK] at A1;simp only [Aa,Ac,y2,yW];simp only [S9,Ag,seval,hlen,H3,UJ,UK,UL,UM,IW,MX,MY,GN,MZ,Al,e1,e3,e15,e16,e17,hi,Qb,Ie,N5,o7,Sb,A1,sF,Pb,mF,mG,iD];refine key _ _ g0 g1 ?_ ?_ ?_ ?_ ?_
    all_goals simp only [S7,Ag,seval,e1,e3,e15,e16,e17]
  · rw [if_pos c1]
    have c1p:(w2 == 0)=false:=by simpa using c1
    rw [c1p] at A1;rw [<- Am];rw [<- AK] at A1;simp only [Aa,Ac,y2,yW];simp only [S9,Ag,seval,hlen,H3,UJ,UK,UL,UM,IW,MX,MY,GN,MZ,Al,e1,e3,e15,e16,e17,hi,Qb,Ie,N5,o7,Sb,A1,sF,Pb,mF,mG,iD];exact ⟨_,_,_,.inr ⟨c1,rfl,by simp only [S7,Ag,seval]⟩⟩
theorem gu (t:Tr) (hs:Fi t) (kids:List Tr) (mf:(match t with | .mk _ _ _ _ _ _ l=>l)=kids) (hk:∀ t ∈ kids,sG t):sG t:=by
 intro b0 b3 lv f c r h0 h3 hr hc p2 rR se
 have WL:∀ y ∈ r++[PBox.cells 35 (DH t).cells],Rx y:=by
  intro y hy;rcases zo.1 hy with h | h
  · exact hr y h
  · simp at h;rw [h];exact Rx.tr t
 have mH:=jR t hs f c lv h0 h3 WL hc p2
 have mg:kids.length<=12:=by
  obtain ⟨k,n,m,nm,v,key,l⟩:=t;simp only at mf;subst mf;unfold Fi at hs;exact hs.1.2.2.2.2
 have hwk:UI t lv c=if jQ t lv c=0 then Np kids (lv+1) (c+1) else (c,jQ t lv c):=by
  obtain ⟨k,n,m,nm,v,key,l⟩:=t;simp only at mf;subst mf;unfold UI jQ;by_cases d1:24 < lv
  · rw [if_pos d1,if_pos d1,if_neg (by decide)]
  · rw [if_neg d1,if_neg d1]
    by_cases d2:200<=c
    · rw [if_pos d2,if_pos d2,if_neg (by decide)]
    · rw [if_neg d2,if_neg d2]
      by_cases d3:iM (.mk k n m nm v key l)=0
      · rw [if_neg (fun h=>h d3),if_pos d3]
      · rw [if_pos d3,if_neg d3]
 have EL:=DC kids
 have hlv24:jQ t lv c=0->lv<=24/\c < 200:=by
  intro h;unfold jQ at h;split at h
  · omega
  · split at h
    · omega
    · omega
 rw [hwk];generalize jQ t lv c=er at *;obtain ⟨⟨fa,fb,fv,Pb⟩,mF,mG,iD⟩:=tJ;have hlen:True:=trivial;by_cases c1:er=0
 · subst c1
   obtain ⟨g1,g2⟩:=hlv24 rfl;rw [if_pos rfl];have key:=fun L hL e r hr e1 e3 e15 e16 e17=>gr L hL b0 b3 h0 h3 lv rR g1 kids mg hk kids.length 0 e r (c+1) (by omega) hr (by omega) (by omega) e1 e3 e15 e16 e17;rw [zq] at key;generalize Np kids (lv+1) (c+1)=w at *;simp only [BEq.rfl] at mH;rw [IC rfl];obtain ⟨xk,xn,xm,xnm,xv,xkey,xkids⟩:=t;simp only at mf;subst mf;unfold DH at mH WL |-;generalize BS xkids=xs at *;simp only [SA] at mH WL;rw [<- Am];rw [<- Am] at key;rw [<- AK] at mH;simp only [Aa,Ac,y2,yW];simp only [S9,Ag,seval,hlen,H3,UJ,UK,UL,UM,IW,MX,MY,GN,MZ,Al,mH,Vb,EL,Pb,mF,mG,iD];generalize hE:GZ (zr _) _=z
   have hP:qu b0 b3 r w z:=by
    rw [<- hE];apply qu.app;refine key _ rfl _ _ WL ?_ ?_ ?_ ?_ ?_
    all_goals first | (simp only [S7,Ag,seval];done) | (simp only [S7,Ag,seval] <;> rfl)
   obtain ⟨e',c',ex,⟨g3,g4,g5,g6,he⟩ | ⟨g3,he,g4⟩⟩:=hP
   · subst he
     rw [g3];simp only [S8,Ag,seval];exact ⟨c',ex,rfl,fun _=>⟨g4,g5,g6⟩⟩
   · subst he
     have g3p:(w.2 == 0)=false:=by simpa using g3
     rw [g3p];simp only [S8,Ag,seval,g4];exact ⟨c',ex,rfl,fun h=>absurd h g3⟩
 · have c1p:(er == 0)=false:=by simpa using c1
   rw [if_neg c1];simp only [c1p] at mH |-;rw [IC rfl];obtain ⟨xk,xn,xm,xnm,xv,xkey,xkids⟩:=t;unfold DH at mH |-;generalize BS xkids=xs at *;simp only [SA] at mH;rw [<- Am];rw [<- AK] at mH;simp only [Aa,Ac,y2,yW];simp only [S9,Ag,seval,hlen,H3,UJ,UK,UL,UM,IW,MX,MY,GN,MZ,Al,mH,Vb,Pb,mF,mG,iD];exact ⟨_,_,rfl,fun h=>absurd h c1⟩
mutual
theorem Wj (t:Tr) (hs:Fi t):sG t:=by
 match t,hs with
 | .mk k n m nm v key kids,hs=>
  have h2:E1 kids:=by unfold Fi at hs;exact hs.2
  exact gu _ hs kids rfl (SM kids h2)
theorem SM (l:List Tr) (hs:E1 l):∀ t ∈ l,sG t:=by
 match l,hs with
 | [],_=>intro t ht;simp at ht
 | x :: r,hs=>
  intro t ht;unfold E1 at hs;rcases y7.1 ht with h | h
  · rw [h];exact Wj x hs.1
  · exact SM r hs.2 t h
end
def Ry (t:Tr):Int:=(UI t 1 0).2
theorem gv (t:Tr) (hs:Fi t) (cs:List PV) (Jc:Aq cs=true):∃ bx,Ae CC 84 [DH t,.fn 85 [] [.bp 2 0,.bp 1 0]] [.cells 35 cs,.cells 24 [.int .i64 0],.cells 3 [.int .i64 0]]=some (.ret (.bool (Ry t == 0)),bx) /\
 bx.take 3=[.cells 35 cs,.cells 24 [.int .i64 (Ry t)],bx.getD 2 default]/\∃ c',bx[2]?=some (.cells 3 [.int .i64 c']):=by
 have wi:=Rx.tr t;obtain ⟨c',ex,BD,_⟩:=Wj t hs (.cells 35 cs) (.cells 35 (DH t).cells) 1 0 0 [] ⟨_,_,rfl,Jc⟩ wi (by simp) (by decide) (by decide) (by decide) (by decide);have A1:=SL (by simp only [BE,Bs] <;> rfl) ⟨_,_,rfl,Jc⟩ wi (by simp) BD;clear BD;unfold Ry;generalize UI t 1 0=w at *;obtain ⟨⟨fa,fb,fv,Pb⟩,mF,mG,iD⟩:=tJ;have hlen:True:=trivial;rw [Ah (fn:=zg) (c:=zg.body.getD .skip) rfl rfl UH rfl Xm (yY rfl)];obtain ⟨xk,xn,xm,xnm,xv,xkey,xkids⟩:=t;unfold DH at A1 |-;generalize BS xkids=xs at *;simp only [SA] at A1;unfold B6 Vb Sb at A1;rw [<- Am];rw [<- AK] at A1;simp only [Aa,Ac,zg,yW];simp only [S9,Ag,seval,hlen,H3,UJ,UK,UL,UM,IW,MX,MY,GN,MZ,Al,A1,Pb,mF,mG,iD,y5,y6];exact ⟨_,rfl,rfl,c',rfl⟩
theorem ZE:zeroCells CC 24=some [.int .i64 0]/\zeroCells CC 3=some [.int .i64 0]:=⟨by kernel_rfl,by kernel_rfl⟩
theorem nj (t:Tr) (hs:Fi t) (cs:List PV) (Jc:Aq cs=true):∃ c':Int,Ak CC (Ae CC) 84 [DH t,.fn 85 [] [.bp 2 0,.bp 1 0]] [.cells 35 cs,.cells 24 [.int .i64 0],.cells 3 [.int .i64 0]] =
 some (.ret (.bool (Ry t == 0)),[.cells 35 cs,.cells 24 [.int .i64 (Ry t)],.cells 3 [.int .i64 c']]):=by
 obtain ⟨bx,h1,h2,c',h3⟩:=gv t hs cs Jc;refine ⟨c',?_⟩;have h4:bx.getD 2 default=.cells 3 [.int .i64 c']:=by rw [List.getD_eq_getElem?_getD,h3];rfl
 rw [h4] at h2;unfold Ak;rw [if_pos (by simp only [BE,Bs,jM] <;> rfl),h1];simp only;unfold Fl;simp only [List.length_cons,List.length_nil];rw [h2,if_pos];rw [y8];refine ⟨by simp [CR.under,PV.under],?_⟩;simp only [List.all_cons,List.all_nil,zf,PBox.under,DD _ _ Jc];simp [Au,PV.under]
theorem QS (t:Tr) (hs:Fi t):∃ bx,Ae CC 53 [DH t] []=some (.ret (.int .i64 (Ry t)),bx):=by
 have hp:=Bs t
 have hw:=nj t hs (DH t).cells (by
  obtain ⟨k,n,m,nm,v,key,kids⟩:=t;unfold DH at hp |-;unfold PV.pure at hp;exact hp)
 obtain ⟨c',hw⟩:=hw;generalize Ry t=er at *;obtain ⟨⟨fa,fb,fv,Pb⟩,mF,mG,iD⟩:=tJ;obtain ⟨z1,z2⟩:=ZE;have hlen:True:=trivial;rw [Ah (fn:=zi) (c:=zi.body.getD .skip) rfl rfl SI rfl UG (yY rfl)];obtain ⟨xk,xn,xm,xnm,xv,xkey,xkids⟩:=t;unfold DH at hw |-;generalize BS xkids=xs at *;simp only [SA] at hw;rw [<- Am];rw [<- AK] at hw;simp only [Aa,Ac,zi,yW];simp only [S9,Ag,seval,hlen,H3,UJ,UK,UL,UM,IW,MX,MY,GN,MZ,Al,hw,Pb,mF,mG,iD,z1,z2,y5,y6];exact ⟨_,rfl⟩
theorem UN (t:Tr) (hs:Fi t) (bx):Ak CC (Ae CC) 53 [DH t] bx=some (.ret (.int .i64 (Ry t)),bx):=by
 obtain ⟨b,h⟩:=QS t hs;exact Ax rfl (by simp only [BE,Bs,CZ,y4]) h rfl
set_option maxHeartbeats 4000000
theorem Zq:Bk CC yX (yX.body.getD .skip)=true:=by kernel_rfl
theorem Xn:CC.P.funcs[114]?=some yX:=by kernel_rfl
def jS (k:Int):Int:=if k=6 then 1 else if k=7\/k=8 then 2 else if 9<=k/\k<=13 then 2 else if k=14 then 3 else 0
def jT (k:Int):Int:=if k=6 then 1 else if k=7\/k=8 then 8 else if 9<=k/\k<=13 then 2 else if k=14 then 3 else 0
noncomputable def po:Bool:=(List.range 16).all fun k=>match Gt CC 60 122 [.int .i64 (k:Int)] [] with
 | some (.ret (.tup [.int .i64 a,.int .i64 b]),_)=>(a == jS k) && (b == jT k)
 | _=>false
theorem jU:po=true:=by kernel_rfl
theorem Zr (k:Int) (h1:0<=k) (h2:k<=15) (bx):Ak CC (Ae CC) 122 [.int .i64 k] bx=some (.ret (.tup [.int .i64 (jS k),.int .i64 (jT k)]),bx):=by
 have h:=jU;unfold po at h;rw [zn] at h;have h:=h k.toNat (by rw [List.mem_range];omega);rw [Int.toNat_of_nonneg h1] at h;split at h
 · rename_i a b bx' hs
   rw [y8,beq_iff_eq,beq_iff_eq] at h;rw [<- h.1,<- h.2];exact Ax rfl (by simp only [SA,zf]) (Gz.2 ⟨60,hs⟩) rfl
 · cases h
theorem nk (k n:Int) (h1:1<=k) (h2:k<=15) (h0:0<=n):Ii k n=decide (jS k<=n/\n<=jT k):=by
 unfold Ii jS jT;by_cases c6:k=6
 · simp only [if_pos c6];rw [y9];simp;omega
 · simp only [if_neg c6]
   by_cases c7:k=7\/k=8
   · simp only [if_pos c7];rw [y9];simp
   · simp only [if_neg c7]
     by_cases c9:9<=k/\k<=13
     · simp only [if_pos c9];rw [y9];simp;omega
     · simp only [if_neg c9]
       by_cases c14:k=14
       · simp only [if_pos c14];rw [y9];simp;omega
       · simp only [if_neg c14];rw [y9];simp;omega
theorem UO (t:Tr) (hs:tI t):∃ bx,Ae CC 114 [DH t] []=some (.ret (.int .i64 (iM t)),bx):=by
 obtain ⟨k,n,m,nm,v,key,kids⟩:=t;have osp:=Xc (.mk k n m nm v key kids);have ock:=W9 v;obtain ⟨vk,vn,vs⟩:=v;obtain ⟨dv,cl,at_⟩:=key;obtain ⟨s1,s2,s3,s4⟩:=hs;simp only at s1 s2 s3 s4;have ov1:=Hv nm (by omega);have ov2:=Hv cl (by omega);have ov3:=Hv at_ (by omega);have EL:=DC kids;unfold DH at osp |-;unfold N6 at ock;unfold iM;simp only at osp ock |-;rw [Ah (fn:=yX) (c:=yX.body.getD .skip) rfl rfl Xn rfl Zq (yY rfl)];have hlen:True:=trivial;generalize ni (.mk k n m nm (vk,vn,vs) (dv,cl,at_) kids)=b2 at *;generalize Fo nm=b4 at *;generalize Fo cl=b5 at *;generalize Fo at_=b6 at *;generalize MW (vk,vn,vs)=ck at *;generalize BS kids=xs at *;by_cases c1:k < 1
 · rw [if_pos (by omega)]
   rw [<- Am];rw [<- AK] at osp ock ov1 ov2 ov3;simp only [Aa,Ac,yX,yW];simp only [S8,Ag,SG,seval,UT,SC,hlen,EL,osp,ock,ov1,ov2,ov3,c1];exact ⟨_,rfl⟩
 by_cases c2:k > 15
 · rw [if_pos (by omega)]
   rw [<- Am];rw [<- AK] at osp ock ov1 ov2 ov3;simp only [Aa,Ac,yX,yW];simp only [S8,Ag,SG,seval,UT,SC,hlen,EL,osp,ock,ov1,ov2,ov3,c1,c2];exact ⟨_,rfl⟩
 have okd:=Zr k (by omega) (by omega);have mf:=nk k kids.length (by omega) (by omega) (by omega);generalize Ii k kids.length=b1 at *;generalize jS k=lo at *;generalize jT k=hi at *;by_cases c3:(kids.length:Int) < lo
 · have hb:b1=false:=by rw [mf];simp;omega
   rw [if_neg (by omega),if_pos (.inl hb)];rw [<- Am];rw [<- AK] at osp okd ock ov1 ov2 ov3;simp only [Aa,Ac,yX,yW];simp only [S8,Ag,SG,seval,UT,SC,hlen,EL,osp,okd,ock,ov1,ov2,ov3,c1,c2,c3];exact ⟨_,rfl⟩
 by_cases c4:(kids.length:Int) > hi
 · have hb:b1=false:=by rw [mf];simp;omega
   rw [if_neg (by omega),if_pos (.inl hb)];rw [<- Am];rw [<- AK] at osp okd ock ov1 ov2 ov3;simp only [Aa,Ac,yX,yW];simp only [S8,Ag,SG,seval,UT,SC,hlen,EL,osp,okd,ock,ov1,ov2,ov3,c1,c2,c3,c4];exact ⟨_,rfl⟩
 have hb:b1=true:=by rw [mf];simp;omega
 subst hb;clear mf;cases b2 with
 | true=>
  rw [if_neg (by omega),if_pos (.inr rfl)];rw [<- Am];rw [<- AK] at osp okd ock ov1 ov2 ov3;simp only [Aa,Ac,yX,yW];simp only [S8,Ag,SG,seval,UT,SC,hlen,EL,osp,okd,ock,ov1,ov2,ov3,c1,c2,c3,c4];exact ⟨_,rfl⟩
 | false=>
  by_cases d4:k=4
  · subst d4
    by_cases e0:n < 0
    · rw [if_neg (by omega),if_neg (by simp),if_pos (by simp [FW];omega)]
      rw [<- Am];rw [<- AK] at osp okd ock ov1 ov2 ov3;simp only [Aa,Ac,yX,yW];simp only [S8,Ag,SG,seval,UT,SC,hlen,EL,osp,okd,ock,ov1,ov2,ov3,c1,c2,c3,c4,e0];exact ⟨_,rfl⟩
    by_cases e1:n > 1439
    · rw [if_neg (by omega),if_neg (by simp),if_pos (by simp [FW];omega)]
      rw [<- Am];rw [<- AK] at osp okd ock ov1 ov2 ov3;simp only [Aa,Ac,yX,yW];simp only [S8,Ag,SG,seval,UT,SC,hlen,EL,osp,okd,ock,ov1,ov2,ov3,c1,c2,c3,c4,e0,e1];exact ⟨_,rfl⟩
    by_cases e2:m < 0
    · rw [if_neg (by omega),if_neg (by simp),if_pos (by simp [FW];omega)]
      rw [<- Am];rw [<- AK] at osp okd ock ov1 ov2 ov3;simp only [Aa,Ac,yX,yW];simp only [S8,Ag,SG,seval,UT,SC,hlen,EL,osp,okd,ock,ov1,ov2,ov3,c1,c2,c3,c4,e0,e1,e2];exact ⟨_,rfl⟩
    by_cases e3:m > 1439
    · rw [if_neg (by omega),if_neg (by simp),if_pos (by simp [FW];omega)]
      rw [<- Am];rw [<- AK] at osp okd ock ov1 ov2 ov3;simp only [Aa,Ac,yX,yW];simp only [S8,Ag,SG,seval,UT,SC,hlen,EL,osp,okd,ock,ov1,ov2,ov3,c1,c2,c3,c4,e0,e1,e2,e3];exact ⟨_,rfl⟩
    rw [if_neg (by omega),if_neg (by simp),if_neg (by simp [FW];omega),if_neg (by omega),if_neg (by omega),if_neg (by omega)];rw [<- Am];rw [<- AK] at osp okd ock ov1 ov2 ov3;simp only [Aa,Ac,yX,yW];simp only [S8,Ag,SG,seval,UT,SC,hlen,EL,osp,okd,ock,ov1,ov2,ov3,c1,c2,c3,c4,e0,e1,e2,e3];exact ⟨_,rfl⟩
  by_cases d5:k=5
  · subst d5
    by_cases e0:n < 1
    · rw [if_neg (by omega),if_neg (by simp),if_pos (by simp [FW];omega)]
      rw [<- Am];rw [<- AK] at osp okd ock ov1 ov2 ov3;simp only [Aa,Ac,yX,yW];simp only [S8,Ag,SG,seval,UT,SC,hlen,EL,osp,okd,ock,ov1,ov2,ov3,c1,c2,c3,c4,e0];exact ⟨_,rfl⟩
    by_cases e1:n > 127
    · rw [if_neg (by omega),if_neg (by simp),if_pos (by simp [FW];omega)]
      rw [<- Am];rw [<- AK] at osp okd ock ov1 ov2 ov3;simp only [Aa,Ac,yX,yW];simp only [S8,Ag,SG,seval,UT,SC,hlen,EL,osp,okd,ock,ov1,ov2,ov3,c1,c2,c3,c4,e0,e1];exact ⟨_,rfl⟩
    rw [if_neg (by omega),if_neg (by simp),if_neg (by simp [FW];omega),if_neg (by omega),if_neg (by omega),if_neg (by omega)];rw [<- Am];rw [<- AK] at osp okd ock ov1 ov2 ov3;simp only [Aa,Ac,yX,yW];simp only [S8,Ag,SG,seval,UT,SC,hlen,EL,osp,okd,ock,ov1,ov2,ov3,c1,c2,c3,c4,e0,e1];exact ⟨_,rfl⟩
  by_cases d15:k=15
  · subst d15
    by_cases e0:n < 0
    · rw [if_neg (by omega),if_neg (by simp),if_pos (by simp [FW];omega)]
      rw [<- Am];rw [<- AK] at osp okd ock ov1 ov2 ov3;simp only [Aa,Ac,yX,yW];simp only [S8,Ag,SG,seval,UT,SC,hlen,EL,osp,okd,ock,ov1,ov2,ov3,c1,c2,c3,c4,e0];exact ⟨_,rfl⟩
    by_cases e1:n > 4
    · rw [if_neg (by omega),if_neg (by simp),if_pos (by simp [FW];omega)]
      rw [<- Am];rw [<- AK] at osp okd ock ov1 ov2 ov3;simp only [Aa,Ac,yX,yW];simp only [S8,Ag,SG,seval,UT,SC,hlen,EL,osp,okd,ock,ov1,ov2,ov3,c1,c2,c3,c4,e0,e1];exact ⟨_,rfl⟩
    rw [if_neg (by omega),if_neg (by simp),if_neg (by simp [FW];omega),if_neg (by omega),if_neg (by omega),if_neg (by omega)];rw [<- Am];rw [<- AK] at osp okd ock ov1 ov2 ov3;simp only [Aa,Ac,yX,yW];simp only [S8,Ag,SG,seval,UT,SC,hlen,EL,osp,okd,ock,ov1,ov2,ov3,c1,c2,c3,c4,e0,e1];exact ⟨_,rfl⟩
  by_cases d2:k=2
  · subst d2
    by_cases e0:dv < 1
    · rw [if_neg (by omega),if_neg (by simp),if_pos (by simp [FW];omega)]
      rw [<- Am];rw [<- AK] at osp okd ock ov1 ov2 ov3;simp only [Aa,Ac,yX,yW];simp only [S8,Ag,SG,seval,UT,SC,hlen,EL,osp,okd,ock,ov1,ov2,ov3,c1,c2,c3,c4,e0];exact ⟨_,rfl⟩
    by_cases e1:dv > 250
    · rw [if_neg (by omega),if_neg (by simp),if_pos (by simp [FW];omega)]
      rw [<- Am];rw [<- AK] at osp okd ock ov1 ov2 ov3;simp only [Aa,Ac,yX,yW];simp only [S8,Ag,SG,seval,UT,SC,hlen,EL,osp,okd,ock,ov1,ov2,ov3,c1,c2,c3,c4,e0,e1];exact ⟨_,rfl⟩
    cases b5 with
    | false=>
     rw [if_neg (by omega),if_neg (by simp),if_neg (by simp [FW];omega),if_neg (by omega),if_pos rfl,if_neg (by simp)];rw [<- Am];rw [<- AK] at osp okd ock ov1 ov2 ov3;simp only [Aa,Ac,yX,yW];simp only [S8,Ag,SG,seval,UT,SC,hlen,EL,osp,okd,ock,ov1,ov2,ov3,c1,c2,c3,c4,e0,e1];exact ⟨_,rfl⟩
    | true=>
     cases b6 with
     | false=>
      rw [if_neg (by omega),if_neg (by simp),if_neg (by simp [FW];omega),if_neg (by omega),if_pos rfl,if_neg (by simp)];rw [<- Am];rw [<- AK] at osp okd ock ov1 ov2 ov3;simp only [Aa,Ac,yX,yW];simp only [S8,Ag,SG,seval,UT,SC,hlen,EL,osp,okd,ock,ov1,ov2,ov3,c1,c2,c3,c4,e0,e1];exact ⟨_,rfl⟩
     | true=>
      rw [if_neg (by omega),if_neg (by simp),if_neg (by simp [FW];omega),if_neg (by omega),if_pos rfl,if_pos (by simp)];rw [<- Am];rw [<- AK] at osp okd ock ov1 ov2 ov3;simp only [Aa,Ac,yX,yW];simp only [S8,Ag,SG,seval,UT,SC,hlen,EL,osp,okd,ock,ov1,ov2,ov3,c1,c2,c3,c4,e0,e1];exact ⟨_,rfl⟩
  by_cases d3:k=3
  · subst d3
    cases b4 with
    | false=>
     rw [if_neg (by omega),if_neg (by simp),if_neg (by simp [FW]),if_pos rfl,if_neg (by simp)];rw [<- Am];rw [<- AK] at osp okd ock ov1 ov2 ov3;simp only [Aa,Ac,yX,yW];simp only [S8,Ag,SG,seval,UT,SC,hlen,EL,osp,okd,ock,ov1,ov2,ov3,c1,c2,c3,c4];exact ⟨_,rfl⟩
    | true=>
     rw [if_neg (by omega),if_neg (by simp),if_neg (by simp [FW]),if_pos rfl,if_pos rfl];rw [<- Am];rw [<- AK] at osp okd ock ov1 ov2 ov3;simp only [Aa,Ac,yX,yW];simp only [S8,Ag,SG,seval,UT,SC,hlen,EL,osp,okd,ock,ov1,ov2,ov3,c1,c2,c3,c4];exact ⟨_,rfl⟩
  by_cases d1:k=1
  · subst d1
    by_cases e1:ck=0
    · subst e1
      by_cases e2:vk=0
      · subst e2
        rw [if_neg (by omega),if_neg (by simp),if_neg (by simp [FW]),if_neg (by omega),if_neg (by omega),if_pos rfl,if_neg (by simp),if_pos rfl];rw [<- Am];rw [<- AK] at osp okd ock ov1 ov2 ov3;simp only [Aa,Ac,yX,yW];simp only [S8,Ag,SG,seval,UT,SC,hlen,EL,osp,okd,ock,ov1,ov2,ov3,c1,c2,c3,c4];exact ⟨_,rfl⟩
      · have e2p:(vk == 0)=false:=by simpa using e2
        rw [if_neg (by omega),if_neg (by simp),if_neg (by simp [FW]),if_neg (by omega),if_neg (by omega),if_pos rfl,if_neg (by simp),if_neg e2];rw [<- Am];rw [<- AK] at osp okd ock ov1 ov2 ov3;simp only [Aa,Ac,yX,yW];simp only [S8,Ag,SG,seval,UT,SC,hlen,EL,osp,okd,ock,ov1,ov2,ov3,c1,c2,c3,c4,e2p];exact ⟨_,rfl⟩
    · have e1p:(ck != 0)=true:=by simpa using e1
      rw [if_neg (by omega),if_neg (by simp),if_neg (by simp [FW]),if_neg (by omega),if_neg (by omega),if_pos rfl,if_pos e1];rw [<- Am];rw [<- AK] at osp okd ock ov1 ov2 ov3;simp only [Aa,Ac,yX,yW];simp only [S8,Ag,SG,seval,UT,SC,hlen,EL,osp,okd,ock,ov1,ov2,ov3,c1,c2,c3,c4,e1p];exact ⟨_,rfl⟩
  have d1p:(k == 1)=false:=by simpa using d1
  have d2p:(k == 2)=false:=by simpa using d2
  have d3p:(k == 3)=false:=by simpa using d3
  have d4p:(k == 4)=false:=by simpa using d4
  have d5p:(k == 5)=false:=by simpa using d5
  have d15p:(k == 15)=false:=by simpa using d15
  rw [if_neg (by omega),if_neg (by simp),if_neg (by unfold FW;rw [if_neg d4,if_neg d5,if_neg d15,if_neg d2];simp),if_neg d3,if_neg d2,if_neg d1];rw [<- Am];rw [<- AK] at osp okd ock ov1 ov2 ov3;simp only [Aa,Ac,yX,yW];simp only [S8,Ag,SG,seval,UT,SC,hlen,EL,osp,okd,ock,ov1,ov2,ov3,c1,c2,c3,c4,d1p,d2p,d3p,d4p,d5p,d15p];exact ⟨_,rfl⟩
theorem Zs (t:Tr) (hs:tI t) (bx):Ak CC (Ae CC) 114 [DH t] bx=some (.ret (.int .i64 (iM t)),bx):=by
 obtain ⟨b,h⟩:=UO t hs;exact Ax rfl (by simp only [BE,Bs,CZ,y4]) h rfl
theorem Zt:Bk CC y3 (y3.body.getD .skip)=true:=by kernel_rfl
theorem Xo:CC.P.funcs[90]?=some y3:=by kernel_rfl
theorem F8 {x:List PV} {b:List PBox} (h:x.length.ble y3.ntmps=true):Ae CC 90 x b=CB CC y3.results.toList (Cp CC (y3.body.getD .skip) ⟨x,b⟩):=Ah (fn:=y3) (c:=y3.body.getD .skip) rfl rfl Xo rfl Zt (yY h)
theorem Xp:Bk CC zh (zh.body.getD .skip)=true:=by kernel_rfl
theorem UP:CC.P.funcs[55]?=some zh:=by kernel_rfl
def pq (t:Tr):Prop:=∀ (lv b:Int),0<=b->b<=200->1<=lv->lv<=25->(∃ bx,Ae CC 90 [DH t,.int .i64 lv,.int .i64 b] []=some (.ret (.tup [.int .i64 (UI t lv b).1,.int .i64 (UI t lv b).2]),bx))/\0<=(UI t lv b).1/\(UI t lv b).1<=200
theorem pv {t:Tr} (h:pq t) (lv b:Int) (h1:0<=b) (h2:b<=200) (h3:1<=lv) (h4:lv<=25) (bx):Ak CC (Ae CC) 90 [DH t,.int .i64 lv,.int .i64 b] bx=some (.ret (.tup [.int .i64 (UI t lv b).1,.int .i64 (UI t lv b).2]),bx):=by
 obtain ⟨⟨q,hq⟩,_⟩:=h lv b h1 h2 h3 h4;exact Ax rfl (by simp only [BE,Bs,Se,CZ,y4]) hq (by simp only [PV.pure,BE,Se,CZ,y4])
def yr (w:Int×Int) (res:Option (Ex×St)):Prop:=∃ e' bx',(w.2=0/\res=some (.exit 0,⟨e',bx'⟩)/\getT e' 9=.int .i64 w.1)\/(w.2≠0/\res=some (.ret,⟨e',bx'⟩)/\getT e' 6=.int .i64 w.1/\getT e' 7=.int .i64 w.2)
theorem jV:∀ (l:List Tr),(∀ t ∈ l,pq t)->∀ lv b:Int,0<=b->b<=200->1<=lv->lv<=25->0<=(Np l lv b).1/\(Np l lv b).1<=200
 | [],_,lv,b,h1,h2,_,_=>by unfold Np;exact ⟨h1,h2⟩
 | t :: r,h,lv,b,h1,h2,h3,h4=>by
  have ht:=(h t (by simp) lv b h1 h2 h3 h4).2;unfold Np;split
  · exact ht
  · exact jV r (fun x hx=>h x (by simp [hx])) lv _ ht.1 ht.2 h3 h4
theorem nn (L:Code) (hL:L=Aa y3 [1,1,1,1,1,0,1,0]) (a0 a1 a2 a3 a4 a5 a6 a7 a8 a9:PV) (lv:Int) (rR:1<=lv) (se:lv<=24) (l:List Tr) (hl:l.length<=12) (hk:∀ t ∈ l,pq t):∀ (k i:Nat) (e:List PV) (b:Int),i+k=l.length->0<=b->b<=200 ->
 getT e 1=.int .i64 lv->getT e 3=.bp 0 0->getT e 9=.int .i64 b->getT e 10=.int .i64 i->yr (Np (l.drop i) (lv+1) b) (Cp CC L ⟨e,[.cells 35 [a0,a1,a2,a3,a4,a5,a6,a7,a8,a9,.sl (BS l)]]⟩):=by
 intro k
 induction k with
 | zero=>
  intro i e b DF hb Uk e1 e3 e9 e10;rw [A0 (Aa y3 [1,1,1,1,1,0,1,0,0]) hL];have hi:¬ ((i:Int) < (l.length:Int)):=by omega
  rw [zk (by omega)];unfold Np;have EL:=DC l;have hlen:True:=trivial;generalize BS l=xs at *;rw [<- Am];simp only [Aa,Ac,y3,yW];simp only [S8,Ag,SG,seval,UT,SC,hlen,e1,e3,e9,e10,EL,hi];exact ⟨_,_,.inl ⟨rfl,rfl,by simp only [S7,Ag,seval,e9]⟩⟩
 | succ k ih=>
  intro i e b DF hb Uk e1 e3 e9 e10;rw [A0 (Aa y3 [1,1,1,1,1,0,1,0,0]) hL];have hi:((i:Int) < (l.length:Int)):=by omega
  have Qb:¬ ((i:Int) < 0):=by omega
  have KE:l.drop i=(l[i]'(by omega)) :: l.drop (i+1):=zj (by omega);have hx:l[i]?=some (l[i]'(by omega)):=by simp
  have Fq:pq (l[i]'(by omega)):=hk _ (zm _);generalize l[i]'(by omega)=x at *;have Ie:=Sr hx;have EL:=DC l;have N5:=wrap_i64 (n:=(i:Int)+1) ⟨by omega,by omega⟩;have o7:=wrap_i64 (n:=lv+1) ⟨by omega,by omega⟩;have key:=fun e b=>ih (i+1) e b (by omega);have cast1:((i+1:Nat):Int)=(i:Int)+1:=by omega
  rw [cast1] at key;rw [KE];unfold Np;have A1:=pv Fq (lv+1) b hb Uk (by omega) (by omega);obtain ⟨_,g0,g1⟩:=Fq (lv+1) b hb Uk (by omega) (by omega);generalize UI x (lv+1) b=w at *;obtain ⟨w1,w2⟩:=w;simp only at A1 g0 g1 |-;have hlen:True:=trivial;obtain ⟨xk,xn,xm,xnm,xv,xkey,xkids⟩:=x;unfold DH at Ie A1;generalize BS xkids=ys at *;generalize BS l=xs at *;by_cases c1:w2=0
  · subst c1
    rw [if_neg (by simp)];rw [<- Am];rw [<- Am] at key;rw [<- AK] at A1;simp only [Aa,Ac,y3,yW];simp only [S8,Ag,SG,seval,UT,SC,hlen,e1,e3,e9,e10,EL,hi,Qb,Ie,N5,o7,A1];refine key _ _ g0 g1 ?_ ?_ ?_ ?_
    all_goals simp only [S7,Ag,seval,e1,e3,e9,e10]
  · rw [if_pos c1]
    have c1p:(w2 != 0)=true:=by simpa using c1
    rw [<- Am];rw [<- AK] at A1;simp only [Aa,Ac,y3,yW];simp only [S8,Ag,SG,seval,UT,SC,hlen,e1,e3,e9,e10,EL,hi,Qb,Ie,N5,o7,A1,c1p];exact ⟨_,_,.inr ⟨c1,rfl,by simp only [S7,Ag,seval],by simp only [S7,Ag,seval]⟩⟩
theorem np (k n m:Int) (nm:List UInt8) (v:Vl) (key:Ky) (kids:List Tr) (hs:Fi (.mk k n m nm v key kids)) (hk:∀ t ∈ kids,pq t):pq (.mk k n m nm v key kids):=by
 intro lv b hb Uk rR se;have Un:=Zs (.mk k n m nm v key kids) (jO hs);have mg:kids.length<=12:=by unfold Fi at hs;exact hs.1.2.2.2.2
 unfold UI;generalize iM (.mk k n m nm v key kids)=nd at *;unfold DH at Un |-;have EL:=DC kids;have hlen:True:=trivial;by_cases c1:lv > 24
 · rw [if_pos c1]
   refine ⟨?_,hb,Uk⟩;rw [F8 rfl];generalize BS kids=xs at *;rw [<- Am];simp only [Aa,Ac,y3,yW];simp only [S8,Ag,SG,seval,UT,SC,hlen,c1];exact ⟨_,rfl⟩
 rw [if_neg c1];by_cases c2:b ≥ 200
 · rw [if_pos c2]
   refine ⟨?_,hb,Uk⟩;rw [F8 rfl];generalize BS kids=xs at *;rw [<- Am];simp only [Aa,Ac,y3,yW];simp only [S8,Ag,SG,seval,UT,SC,hlen,c1,c2];exact ⟨_,rfl⟩
 rw [if_neg c2];by_cases c3:nd=0
 · subst c3
   rw [if_neg (by simp)];have hw:=wrap_i64 (n:=b+1) ⟨by omega,by omega⟩;have Yu:=jV kids hk (lv+1) (b+1) (by omega) (by omega) (by omega) (by omega);refine ⟨?_,Yu⟩;have key:=fun L hL a0 a1 a2 a3 a4 a5 a6 a7 a8 a9 e e1 e3 e9 e10=>nn L hL a0 a1 a2 a3 a4 a5 a6 a7 a8 a9 lv rR (by omega) kids mg hk kids.length 0 e (b+1) (by omega) (by omega) (by omega) e1 e3 e9 e10;rw [zq] at key;generalize Np kids (lv+1) (b+1)=w at *;rw [F8 rfl];generalize BS kids=xs at *;rw [<- Am];rw [<- Am] at key;rw [<- AK] at Un;simp only [Aa,Ac,y3,yW];simp only [S8,Ag,SG,seval,UT,SC,hlen,c1,c2,Un,hw];generalize hE:GZ (zr _) _=z
   have hP:yr w z:=by
    rw [<- hE];refine key _ rfl _ _ _ _ _ _ _ _ _ _ _ ?_ ?_ ?_ ?_
    all_goals first | (simp only [S7,Ag,seval];done) | (simp only [S7,Ag,seval] <;> rfl)
   obtain ⟨e',bx',⟨g1,he,g2⟩ | ⟨g1,he,g2,g3⟩⟩:=hP
   · subst he
     rw [g1];simp only [S8,Ag,seval,g2];exact ⟨_,rfl⟩
   · subst he
     simp only [S8,Ag,seval,g2,g3];exact ⟨_,rfl⟩
 · rw [if_pos c3]
   have c3p:(nd != 0)=true:=by simpa using c3
   refine ⟨?_,hb,Uk⟩;rw [F8 rfl];generalize BS kids=xs at *;rw [<- Am];rw [<- AK] at Un;simp only [Aa,Ac,y3,yW];simp only [S8,Ag,SG,seval,UT,SC,hlen,c1,c2,Un,c3p];exact ⟨_,rfl⟩
mutual
theorem dZ (t:Tr) (hs:Fi t):pq t:=by
 match t,hs with
 | .mk k n m nm v key kids,hs=>
  have h2:E1 kids:=by unfold Fi at hs;exact hs.2
  exact np k n m nm v key kids hs (Zu kids h2)
theorem Zu (l:List Tr) (hs:E1 l):∀ t ∈ l,pq t:=by
 match l,hs with
 | [],_=>intro t ht;simp at ht
 | x :: r,hs=>
  intro t ht;unfold E1 at hs;rcases y7.1 ht with h | h
  · rw [h];exact dZ x hs.1
  · exact Zu r hs.2 t h
end
theorem SN (t:Tr) (hs:Fi t):∃ bx,Ae CC 55 [DH t] []=some (.ret (.int .i64 (Ry t)),bx):=by
 have A1:=pv (dZ t hs) 1 0 (by decide) (by decide) (by decide) (by decide);unfold Ry;generalize UI t 1 0=w at *;have hlen:True:=trivial;rw [Ah (fn:=zh) (c:=zh.body.getD .skip) rfl rfl UP rfl Xp (yY rfl)];obtain ⟨xk,xn,xm,xnm,xv,xkey,xkids⟩:=t;unfold DH at A1 |-;generalize BS xkids=xs at *;rw [<- Am];rw [<- AK] at A1;simp only [Aa,Ac,zh,yW];simp only [S8,Ag,SG,seval,UT,SC,hlen,A1];exact ⟨_,rfl⟩
theorem Xq (t:Tr) (hs:Fi t) (bx):Ak CC (Ae CC) 55 [DH t] bx=some (.ret (.int .i64 (Ry t)),bx):=by
 obtain ⟨b,h⟩:=SN t hs;exact Ax rfl (by simp only [BE,Bs,CZ,y4]) h rfl
end Go.HH
