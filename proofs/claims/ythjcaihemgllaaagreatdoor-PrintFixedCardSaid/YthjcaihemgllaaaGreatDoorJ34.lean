/-
  What the law needs, packed: Q2.
-/
import Derived.Test.YthjcaihemgllaaaGreatDoorJ33
open Option renaming getD->Aa0
open Go.Proofs.Tryz renaming f117->Aa1,f115->Aa2,f61->Aa4,f114->Aa5,f60->Aaa,f116->Aac,f59->Aad,f31->Aae,prog->Aah
open Nat renaming le_of_ble_eq_true->Aa3
open List renaming mem_cons->Aa6,set_cons_zero->Aa7,set_cons_succ->Aa8,mem_append->Aai
open Bool renaming and_self->Aa9,and_eq_true->Aab,and_true->Aaf,not_not->Aag
namespace Go.HH
open Go Go.Proofs
set_option maxRecDepth 100000
set_option linter.unusedSimpArgs false
set_option linter.unusedVariables false
mutual
theorem BH (t:Tr):(BE t).pure=true:=by
 match t with
 | .mk k n m nm v key kids=>
  unfold BE;have h:=AY kids;simp only [PV.pure,Al,h,Aa9,Bool.true_and,Aaf]
theorem AY (l:List Tr):Al (A8 l)=true:=by
 match l with
 | []=>unfold A8;rfl
 | t :: r=>
  unfold A8;rw [AO,BH t,AY r];rfl
end
mutual
def Xq:Tr->Int->Int->Int
 | .mk k n m nm v key kids,left,levels=>if left < 1\/levels < 1\/12 < kids.length\/100 < nm.length\/100 < v.2.2.length\/100 < key.2.1.length\/100 < key.2.2.length then -1 else Pv kids (left - 1) (levels - 1)
def Pv:List Tr->Int->Int->Int
 | [],left,_=>left
 | t :: r,left,levels=>if Xq t left levels < 0 then -1 else Pv r (Xq t left levels) levels
end
theorem Tn:Be CC Aac (Aac.body.getD .skip)=true:=by kernel_rfl
theorem Rg:CC.P.funcs[116]?=some Aac:=by kernel_rfl
theorem X9:A9 CC 24 []=some (.agg [.int .i64 0,.int .i64 0,.str []]):=by kernel_rfl
theorem Bq:A9 CC 26 []=some (.agg [.int .i64 0,.str [],.str []]):=by kernel_rfl
def ED (v w:Ky):Bool:=(v.1 == w.1) && (v.2.1 == w.2.1) && (v.2.2 == w.2.2)
theorem fl (a a':Int) (b b' c c':List UInt8):Mu CC 100 26 (.agg [.int .i64 a,.str b,.str c]) (.agg [.int .i64 a',.str b',.str c'])=some ((a == a') && (b == b') && (c == c')):=by
 have h:Mu CC 100 26 (.agg [.int .i64 a,.str b,.str c]) (.agg [.int .i64 a',.str b',.str c'])=Kj (a == a') (Kj (b == b') (Kj (c == c') (some true))):=by kernel_rfl
 rw [h];cases a == a' <;> cases b == b' <;> cases c == c' <;> rfl
theorem Cu:CC.P.eqGuardType CC.P.depth 26=false:=by kernel_rfl
theorem wa:Mu CC 100 24 (.agg [.int .i64 0,.int .i64 0,.str []]) (.agg [.int .i64 0,.int .i64 0,.str []])=some true:=by rw [nK];rfl
theorem wb:Mu CC 100 26 (.agg [.int .i64 0,.str [],.str []]) (.agg [.int .i64 0,.str [],.str []])=some true:=by rw [fl];rfl
def yx (k:Int) (b1 b2 b3 b4 b5:Bool):Bool:=(b1 && !(k == 4 || k == 5 || k == 15)) || (b2 && !(k == 4)) || (b3 && !(k == 3)) || (b4 && !(k == 1)) || (b5 && !(k == 2))
def aA:Tr->Bool
 | .mk k n m nm v key _=>yx k (n != 0) (m != 0) (!(nm == [])) (!(Ra v (0,0,[]))) (!(ED key (0,[],[])))
set_option maxHeartbeats 20000000 in
theorem Pw (t:Tr):∃ bx,Ad CC 116 [BE t] []=some (.ret (.bool (aA t)),bx):=by
 obtain ⟨k,n,m,nm,⟨vk,vn,vs⟩,⟨dv,cl,at_⟩,kids⟩:=t;unfold BE aA;dsimp only;obtain ⟨b1,h0,h1,re⟩:∃ b,(n != 0)=b/\(n != 0)=b/\(n == 0)=!b:=⟨_,rfl,rfl,by simp [bne]⟩;obtain ⟨b2,g0,h2,mP⟩:∃ b,(m != 0)=b/\(m != 0)=b/\(m == 0)=!b:=⟨_,rfl,rfl,by simp [bne]⟩;obtain ⟨b3,f0,h3,h3'⟩:∃ b,(!(nm == []))=b/\EB .neq nm []=some (.bool b)/\EB .eql nm []=some (.bool (!b)):=⟨_,rfl,rfl,by rw [Aag];rfl⟩;obtain ⟨b4,e0,h4⟩:∃ b,(!(Ra (vk,vn,vs) (0,0,[])))=b/\Mu CC 100 24 (.agg [.int .i64 vk,.int .i64 vn,.str vs]) (.agg [.int .i64 0,.int .i64 0,.str []])=some (!b):=⟨_,rfl,by rw [nK,Aag];rfl⟩;obtain ⟨b5,d0,h5⟩:∃ b,(!(ED (dv,cl,at_) (0,[],[])))=b/\Mu CC 100 26 (.agg [.int .i64 dv,.str cl,.str at_]) (.agg [.int .i64 0,.str [],.str []])=some (!b):=⟨_,rfl,by rw [fl,Aag];rfl⟩;rw [h0,g0,f0,e0,d0];clear h0 g0 f0 e0 d0;have h3z:EB .neq [] []=some (.bool false):=rfl;have h3z':EB .eql [] []=some (.bool true):=rfl
 have hk:(k=1\/k=2\/k=3\/k=4\/k=5\/k=15)\/((k == 1)=false/\(k == 2)=false/\(k == 3)=false/\(k == 4)=false/\(k == 5)=false/\(k == 15)=false):=by
  simp only [beq_eq_false_iff_ne];omega
 generalize A8 kids=xs;rw [Ah (fn:=Aac) (c:=Aac.body.getD .skip) rfl rfl Rg rfl Tn (Aa3 rfl)];rw [<- An];simp only [Ab,Ac,Aac,Aa0];rcases hk with hk | ⟨k1,k2,k3,k4,k5,k6⟩
 · rcases hk with rfl | rfl | rfl | rfl | rfl | rfl
   all_goals cases b1 <;> cases b2 <;> cases b3 <;> cases b4 <;> cases b5
   all_goals
    simp only [S9,Ag,seval,LG,X9,Bq,Gj,Cu,wa,wb,Aa7,Aa8,h1,re,h2,mP,h3,h3',h3z,h3z',h4,h5];exact ⟨_,rfl⟩
 · cases b1 <;> cases b2 <;> cases b3 <;> cases b4 <;> cases b5
   all_goals
    simp only [S9,Ag,seval,LG,X9,Bq,Gj,Cu,wa,wb,Aa7,Aa8,h1,re,h2,mP,h3,h3',h3z,h3z',h4,h5,k1,k2,k3,k4,k5,k6,yx];exact ⟨_,rfl⟩
theorem To (t:Tr) (bx):Ai CC (Ad CC) 116 [BE t] bx=some (.ret (.bool (aA t)),bx):=by
 obtain ⟨b,h⟩:=Pw t;exact Aq rfl (by simp only [AO,BH,Bu,Aa9]) h rfl
theorem V2:Be CC Aa2 (Aa2.body.getD .skip)=true:=by kernel_rfl
theorem Tp:CC.P.funcs[115]?=some Aa2:=by kernel_rfl
theorem BT {x:List PV} {b:List PBox} (h:x.length.ble Aa2.ntmps=true):Ad CC 115 x b=CM CC Aa2.results.toList (Co CC (Aa2.body.getD .skip) ⟨x,b⟩):=Ah (fn:=Aa2) (c:=Aa2.body.getD .skip) rfl rfl Tp rfl V2 (Aa3 h)
theorem Rh:Be CC Aa1 (Aa1.body.getD .skip)=true:=by kernel_rfl
theorem Px:CC.P.funcs[117]?=some Aa1:=by kernel_rfl
theorem Dh {x:List PV} {b:List PBox} (h:x.length.ble Aa1.ntmps=true):Ad CC 117 x b=CM CC Aa1.results.toList (Co CC (Aa1.body.getD .skip) ⟨x,b⟩):=Ah (fn:=Aa1) (c:=Aa1.body.getD .skip) rfl rfl Px rfl Rh (Aa3 h)
theorem V3:Be CC Aa4 (Aa4.body.getD .skip)=true:=by kernel_rfl
theorem Tq:CC.P.funcs[61]?=some Aa4:=by kernel_rfl
def Ek (k n:Int):Bool:=if k=6 then n == 1 else if k=7\/k=8 then decide (2<=n) && decide (n<=8) else if 9<=k/\k<=13 then n == 2 else if k=14 then n == 3 else n == 0
def E' (k n m dv:Int):Bool:=if k=4 then decide (0<=n/\n < 1440/\0<=m/\m < 1440) else if k=5 then decide (1<=n/\n<=127) else if k=15 then decide (0<=n/\n<=4) else if k=2 then decide (1<=dv/\dv<=250) else true
def S6:Tr->Int
 | .mk k n m nm v key kids=>if k < 1\/15 < k then 7 else if Ek k kids.length=false\/aA (.mk k n m nm v key kids)=true then 1 else if E' k n m key.1=false then 2 else
  if k=3 then (if BQ nm then 0 else 10) else if k=2 then (if BQ key.2.1 && BQ key.2.2 then 0 else 10) else if k=1 then (if JL v≠0 then JL v else if v.1=0 then 7 else 0) else 0
theorem X' (n:Int):∃ bx,Ad CC 115 [.int .i64 6,.int .i64 n] []=some (.ret (.bool (Ek 6 n)),bx):=by
 rw [BT rfl];have hlen:True:=trivial;rw [show Ek 6 n=(n == 1) by simp [Ek]];rw [<- An];simp only [Ab,Ac,Aa2,Aa0];simp only [S8,Ag,SG,seval,UT,SC,hlen];exact ⟨_,rfl⟩
theorem Ya (n:Int):∃ bx,Ad CC 115 [.int .i64 7,.int .i64 n] []=some (.ret (.bool (Ek 7 n)),bx):=by
 rw [BT rfl];have hlen:True:=trivial;by_cases c1:n ≥ 2
 · by_cases c2:n<=8
   · rw [show Ek 7 n=true by simp [Ek];omega]
     rw [<- An];simp only [Ab,Ac,Aa2,Aa0];simp only [S8,Ag,SG,seval,UT,SC,hlen,c1,c2];exact ⟨_,rfl⟩
   · rw [show Ek 7 n=false by simp [Ek];omega]
     rw [<- An];simp only [Ab,Ac,Aa2,Aa0];simp only [S8,Ag,SG,seval,UT,SC,hlen,c1,c2];exact ⟨_,rfl⟩
 · rw [show Ek 7 n=false by simp [Ek];omega]
   rw [<- An];simp only [Ab,Ac,Aa2,Aa0];simp only [S8,Ag,SG,seval,UT,SC,hlen,c1];exact ⟨_,rfl⟩
theorem Yb (n:Int):∃ bx,Ad CC 115 [.int .i64 8,.int .i64 n] []=some (.ret (.bool (Ek 8 n)),bx):=by
 rw [BT rfl];have hlen:True:=trivial;by_cases c1:n ≥ 2
 · by_cases c2:n<=8
   · rw [show Ek 8 n=true by simp [Ek];omega]
     rw [<- An];simp only [Ab,Ac,Aa2,Aa0];simp only [S8,Ag,SG,seval,UT,SC,hlen,c1,c2];exact ⟨_,rfl⟩
   · rw [show Ek 8 n=false by simp [Ek];omega]
     rw [<- An];simp only [Ab,Ac,Aa2,Aa0];simp only [S8,Ag,SG,seval,UT,SC,hlen,c1,c2];exact ⟨_,rfl⟩
 · rw [show Ek 8 n=false by simp [Ek];omega]
   rw [<- An];simp only [Ab,Ac,Aa2,Aa0];simp only [S8,Ag,SG,seval,UT,SC,hlen,c1];exact ⟨_,rfl⟩
theorem Yc (n:Int):∃ bx,Ad CC 115 [.int .i64 9,.int .i64 n] []=some (.ret (.bool (Ek 9 n)),bx):=by
 rw [BT rfl];have hlen:True:=trivial;rw [show Ek 9 n=(n == 2) by simp [Ek]];rw [<- An];simp only [Ab,Ac,Aa2,Aa0];simp only [S8,Ag,SG,seval,UT,SC,hlen];exact ⟨_,rfl⟩
theorem V4 (n:Int):∃ bx,Ad CC 115 [.int .i64 10,.int .i64 n] []=some (.ret (.bool (Ek 10 n)),bx):=by
 rw [BT rfl];have hlen:True:=trivial;rw [show Ek 10 n=(n == 2) by simp [Ek]];rw [<- An];simp only [Ab,Ac,Aa2,Aa0];simp only [S8,Ag,SG,seval,UT,SC,hlen];exact ⟨_,rfl⟩
theorem V5 (n:Int):∃ bx,Ad CC 115 [.int .i64 11,.int .i64 n] []=some (.ret (.bool (Ek 11 n)),bx):=by
 rw [BT rfl];have hlen:True:=trivial;rw [show Ek 11 n=(n == 2) by simp [Ek]];rw [<- An];simp only [Ab,Ac,Aa2,Aa0];simp only [S8,Ag,SG,seval,UT,SC,hlen];exact ⟨_,rfl⟩
theorem V6 (n:Int):∃ bx,Ad CC 115 [.int .i64 12,.int .i64 n] []=some (.ret (.bool (Ek 12 n)),bx):=by
 rw [BT rfl];have hlen:True:=trivial;rw [show Ek 12 n=(n == 2) by simp [Ek]];rw [<- An];simp only [Ab,Ac,Aa2,Aa0];simp only [S8,Ag,SG,seval,UT,SC,hlen];exact ⟨_,rfl⟩
theorem V7 (n:Int):∃ bx,Ad CC 115 [.int .i64 13,.int .i64 n] []=some (.ret (.bool (Ek 13 n)),bx):=by
 rw [BT rfl];have hlen:True:=trivial;rw [show Ek 13 n=(n == 2) by simp [Ek]];rw [<- An];simp only [Ab,Ac,Aa2,Aa0];simp only [S8,Ag,SG,seval,UT,SC,hlen];exact ⟨_,rfl⟩
theorem V8 (n:Int):∃ bx,Ad CC 115 [.int .i64 14,.int .i64 n] []=some (.ret (.bool (Ek 14 n)),bx):=by
 rw [BT rfl];have hlen:True:=trivial;rw [show Ek 14 n=(n == 3) by simp [Ek]];rw [<- An];simp only [Ab,Ac,Aa2,Aa0];simp only [S8,Ag,SG,seval,UT,SC,hlen];exact ⟨_,rfl⟩
theorem Yd (k n:Int) (hk6:(k == 6)=false) (hk7:(k == 7)=false) (hk8:(k == 8)=false) (hk9:(k == 9)=false) (hk10:(k == 10)=false) (hk11:(k == 11)=false) (hk12:(k == 12)=false) (hk13:(k == 13)=false) (hk14:(k == 14)=false) (hd:Ek k n=(n == 0)):∃ bx,Ad CC 115 [.int .i64 k,.int .i64 n] []=some (.ret (.bool (Ek k n)),bx):=by
 rw [BT rfl];have hlen:True:=trivial;rw [hd];rw [<- An];simp only [Ab,Ac,Aa2,Aa0];simp only [S8,Ag,SG,seval,UT,SC,hlen,hk6,hk7,hk8,hk9,hk10,hk11,hk12,hk13,hk14];exact ⟨_,rfl⟩
theorem Ri (k n:Int):∃ bx,Ad CC 115 [.int .i64 k,.int .i64 n] []=some (.ret (.bool (Ek k n)),bx):=by
 by_cases c6:k=6
 · subst c6
   exact X' n
 by_cases c7:k=7
 · subst c7
   exact Ya n
 by_cases c8:k=8
 · subst c8
   exact Yb n
 by_cases c9:k=9
 · subst c9
   exact Yc n
 by_cases c10:k=10
 · subst c10
   exact V4 n
 by_cases c11:k=11
 · subst c11
   exact V5 n
 by_cases c12:k=12
 · subst c12
   exact V6 n
 by_cases c13:k=13
 · subst c13
   exact V7 n
 by_cases c14:k=14
 · subst c14
   exact V8 n
 refine Yd k n (by simpa using c6) (by simpa using c7) (by simpa using c8) (by simpa using c9) (by simpa using c10) (by simpa using c11) (by simpa using c12) (by simpa using c13) (by simpa using c14) ?_;unfold Ek;rw [if_neg c6,if_neg (by omega),if_neg (by omega),if_neg c14]
theorem V9 (k n:Int) (bx):Ai CC (Ad CC) 115 [.int .i64 k,.int .i64 n] bx=some (.ret (.bool (Ek k n)),bx):=by
 obtain ⟨b,h⟩:=Ri k n;exact Aq rfl (by simp only [SA,Aaf]) h rfl
theorem Ts (n m:Int) (nm:List UInt8) (vk vn:Int) (vs:List UInt8) (dv:Int) (cl at_:List UInt8) (xs:List PV):∃ bx,Ad CC 117 [.agg [.int .i64 4,.int .i64 n,.int .i64 m,.str nm,.int .i64 vk,.int .i64 vn,.str vs,.int .i64 dv,.str cl,.str at_,.sl xs]] []=some (.ret (.bool (E' 4 n m dv)),bx):=by
 rw [Dh rfl];have hlen:True:=trivial;by_cases c0:n ≥ 0
 · by_cases c1:n < 1440
   · by_cases c2:m ≥ 0
     · by_cases c3:m < 1440
       · rw [show E' 4 n m dv=true by simp [E'];omega]
         rw [<- An];simp only [Ab,Ac,Aa1,Aa0];simp only [S8,Ag,SG,seval,UT,SC,hlen,c0,c1,c2,c3];exact ⟨_,rfl⟩
       · rw [show E' 4 n m dv=false by simp [E'];omega]
         rw [<- An];simp only [Ab,Ac,Aa1,Aa0];simp only [S8,Ag,SG,seval,UT,SC,hlen,c0,c1,c2,c3];exact ⟨_,rfl⟩
     · rw [show E' 4 n m dv=false by simp [E'];omega]
       rw [<- An];simp only [Ab,Ac,Aa1,Aa0];simp only [S8,Ag,SG,seval,UT,SC,hlen,c0,c1,c2];exact ⟨_,rfl⟩
   · rw [show E' 4 n m dv=false by simp [E'];omega]
     rw [<- An];simp only [Ab,Ac,Aa1,Aa0];simp only [S8,Ag,SG,seval,UT,SC,hlen,c0,c1];exact ⟨_,rfl⟩
 · rw [show E' 4 n m dv=false by simp [E'];omega]
   rw [<- An];simp only [Ab,Ac,Aa1,Aa0];simp only [S8,Ag,SG,seval,UT,SC,hlen,c0];exact ⟨_,rfl⟩
theorem Tt (n m:Int) (nm:List UInt8) (vk vn:Int) (vs:List UInt8) (dv:Int) (cl at_:List UInt8) (xs:List PV):∃ bx,Ad CC 117 [.agg [.int .i64 5,.int .i64 n,.int .i64 m,.str nm,.int .i64 vk,.int .i64 vn,.str vs,.int .i64 dv,.str cl,.str at_,.sl xs]] []=some (.ret (.bool (E' 5 n m dv)),bx):=by
 rw [Dh rfl];have hlen:True:=trivial;by_cases c0:n ≥ 1
 · by_cases c1:n<=127
   · rw [show E' 5 n m dv=true by simp [E'];omega]
     rw [<- An];simp only [Ab,Ac,Aa1,Aa0];simp only [S8,Ag,SG,seval,UT,SC,hlen,c0,c1];exact ⟨_,rfl⟩
   · rw [show E' 5 n m dv=false by simp [E'];omega]
     rw [<- An];simp only [Ab,Ac,Aa1,Aa0];simp only [S8,Ag,SG,seval,UT,SC,hlen,c0,c1];exact ⟨_,rfl⟩
 · rw [show E' 5 n m dv=false by simp [E'];omega]
   rw [<- An];simp only [Ab,Ac,Aa1,Aa0];simp only [S8,Ag,SG,seval,UT,SC,hlen,c0];exact ⟨_,rfl⟩
theorem Rj (n m:Int) (nm:List UInt8) (vk vn:Int) (vs:List UInt8) (dv:Int) (cl at_:List UInt8) (xs:List PV):∃ bx,Ad CC 117 [.agg [.int .i64 15,.int .i64 n,.int .i64 m,.str nm,.int .i64 vk,.int .i64 vn,.str vs,.int .i64 dv,.str cl,.str at_,.sl xs]] []=some (.ret (.bool (E' 15 n m dv)),bx):=by
 rw [Dh rfl];have hlen:True:=trivial;by_cases c0:n ≥ 0
 · by_cases c1:n<=4
   · rw [show E' 15 n m dv=true by simp [E'];omega]
     rw [<- An];simp only [Ab,Ac,Aa1,Aa0];simp only [S8,Ag,SG,seval,UT,SC,hlen,c0,c1];exact ⟨_,rfl⟩
   · rw [show E' 15 n m dv=false by simp [E'];omega]
     rw [<- An];simp only [Ab,Ac,Aa1,Aa0];simp only [S8,Ag,SG,seval,UT,SC,hlen,c0,c1];exact ⟨_,rfl⟩
 · rw [show E' 15 n m dv=false by simp [E'];omega]
   rw [<- An];simp only [Ab,Ac,Aa1,Aa0];simp only [S8,Ag,SG,seval,UT,SC,hlen,c0];exact ⟨_,rfl⟩
theorem Tu (n m:Int) (nm:List UInt8) (vk vn:Int) (vs:List UInt8) (dv:Int) (cl at_:List UInt8) (xs:List PV):∃ bx,Ad CC 117 [.agg [.int .i64 2,.int .i64 n,.int .i64 m,.str nm,.int .i64 vk,.int .i64 vn,.str vs,.int .i64 dv,.str cl,.str at_,.sl xs]] []=some (.ret (.bool (E' 2 n m dv)),bx):=by
 rw [Dh rfl];have hlen:True:=trivial;by_cases c0:dv ≥ 1
 · by_cases c1:dv<=250
   · rw [show E' 2 n m dv=true by simp [E'];omega]
     rw [<- An];simp only [Ab,Ac,Aa1,Aa0];simp only [S8,Ag,SG,seval,UT,SC,hlen,c0,c1];exact ⟨_,rfl⟩
   · rw [show E' 2 n m dv=false by simp [E'];omega]
     rw [<- An];simp only [Ab,Ac,Aa1,Aa0];simp only [S8,Ag,SG,seval,UT,SC,hlen,c0,c1];exact ⟨_,rfl⟩
 · rw [show E' 2 n m dv=false by simp [E'];omega]
   rw [<- An];simp only [Ab,Ac,Aa1,Aa0];simp only [S8,Ag,SG,seval,UT,SC,hlen,c0];exact ⟨_,rfl⟩
theorem Tv (k:Int) (vt:(k == 4)=false) (hk5:(k == 5)=false) (hk15:(k == 15)=false) (Zx:(k == 2)=false) (n m:Int) (nm:List UInt8) (vk vn:Int) (vs:List UInt8) (dv:Int) (cl at_:List UInt8) (xs:List PV) (hd:E' k n m dv=true):∃ bx,Ad CC 117 [.agg [.int .i64 k,.int .i64 n,.int .i64 m,.str nm,.int .i64 vk,.int .i64 vn,.str vs,.int .i64 dv,.str cl,.str at_,.sl xs]] []=some (.ret (.bool (E' k n m dv)),bx):=by
 rw [Dh rfl];have hlen:True:=trivial;rw [hd];rw [<- An];simp only [Ab,Ac,Aa1,Aa0];simp only [S8,Ag,SG,seval,UT,SC,hlen,vt,hk5,hk15,Zx];exact ⟨_,rfl⟩
def yz:Tr->Bool
 | .mk k n m nm v key kids=>E' k n m key.1
theorem N2 (t:Tr):∃ bx,Ad CC 117 [BE t] []=some (.ret (.bool (yz t)),bx):=by
 obtain ⟨k,n,m,nm,v,key,kids⟩:=t;obtain ⟨vk,vn,vs⟩:=v;obtain ⟨dv,cl,at_⟩:=key;unfold BE yz;by_cases c4:k=4
 · subst c4
   exact Ts n m nm vk vn vs dv cl at_ (A8 kids)
 by_cases c5:k=5
 · subst c5
   exact Tt n m nm vk vn vs dv cl at_ (A8 kids)
 by_cases c15:k=15
 · subst c15
   exact Rj n m nm vk vn vs dv cl at_ (A8 kids)
 by_cases c2:k=2
 · subst c2
   exact Tu n m nm vk vn vs dv cl at_ (A8 kids)
 refine Tv k (by simpa using c4) (by simpa using c5) (by simpa using c15) (by simpa using c2) n m nm vk vn vs dv cl at_ (A8 kids) ?_;unfold E';rw [if_neg c4,if_neg c5,if_neg c15,if_neg c2]
theorem Rk (t:Tr) (bx):Ai CC (Ad CC) 117 [BE t] bx=some (.ret (.bool (yz t)),bx):=by
 obtain ⟨b,h⟩:=N2 t;exact Aq rfl (by simp only [AO,BH,Bu,Aa9]) h rfl
def y9:Tr->Prop
 | .mk k n m nm v key kids=>nm.length<=100/\v.2.2.length<=100/\key.2.1.length<=100/\key.2.2.length<=100
theorem Rm (t:Tr) (hs:y9 t):∃ bx,Ad CC 61 [BE t] []=some (.ret (.int .i64 (S6 t)),bx):=by
 obtain ⟨k,n,m,nm,v,key,kids⟩:=t;have osp:=To (.mk k n m nm v key kids);have org:=Rk (.mk k n m nm v key kids);have okd:=V9 k kids.length;have ock:=Kk v;obtain ⟨vk,vn,vs⟩:=v;obtain ⟨dv,cl,at_⟩:=key;obtain ⟨s1,s2,s3,s4⟩:=hs;simp only at s1 s2 s3 s4;have ov1:=Cg nm (by omega);have ov2:=Cg cl (by omega);have ov3:=Cg at_ (by omega);have Lz:=Dg kids;unfold BE at osp org |-;unfold Q' at ock;unfold S6;unfold yz at org;simp only at osp org ock |-;rw [Ah (fn:=Aa4) (c:=Aa4.body.getD .skip) rfl rfl Tq rfl V3 (Aa3 rfl)];have hlen:True:=trivial;generalize Ek k kids.length=b1 at *;generalize aA (.mk k n m nm (vk,vn,vs) (dv,cl,at_) kids)=b2 at *;generalize E' k n m dv=b3 at *;generalize BQ nm=b4 at *;generalize BQ cl=b5 at *;generalize BQ at_=b6 at *;generalize JL (vk,vn,vs)=ck at *;generalize A8 kids=xs at *;by_cases c1:k < 1
 · rw [if_pos (by omega)]
   rw [<- An];rw [<- AL] at osp org okd ock ov1 ov2 ov3;simp only [Ab,Ac,Aa4,Aa0];simp only [S8,Ag,SG,seval,UT,SC,hlen,Lz,osp,org,okd,ock,ov1,ov2,ov3,c1];exact ⟨_,rfl⟩
 by_cases c2:k > 15
 · rw [if_pos (by omega)]
   rw [<- An];rw [<- AL] at osp org okd ock ov1 ov2 ov3;simp only [Ab,Ac,Aa4,Aa0];simp only [S8,Ag,SG,seval,UT,SC,hlen,Lz,osp,org,okd,ock,ov1,ov2,ov3,c1,c2];exact ⟨_,rfl⟩
 cases b1 with
 | false=>
  rw [if_neg (by omega),if_pos (.inl rfl)];rw [<- An];rw [<- AL] at osp org okd ock ov1 ov2 ov3;simp only [Ab,Ac,Aa4,Aa0];simp only [S8,Ag,SG,seval,UT,SC,hlen,Lz,osp,org,okd,ock,ov1,ov2,ov3,c1,c2];exact ⟨_,rfl⟩
 | true=>
  cases b2 with
  | true=>
   rw [if_neg (by omega),if_pos (.inr rfl)];rw [<- An];rw [<- AL] at osp org okd ock ov1 ov2 ov3;simp only [Ab,Ac,Aa4,Aa0];simp only [S8,Ag,SG,seval,UT,SC,hlen,Lz,osp,org,okd,ock,ov1,ov2,ov3,c1,c2];exact ⟨_,rfl⟩
  | false=>
   cases b3 with
   | false=>
    rw [if_neg (by omega),if_neg (by simp),if_pos rfl];rw [<- An];rw [<- AL] at osp org okd ock ov1 ov2 ov3;simp only [Ab,Ac,Aa4,Aa0];simp only [S8,Ag,SG,seval,UT,SC,hlen,Lz,osp,org,okd,ock,ov1,ov2,ov3,c1,c2];exact ⟨_,rfl⟩
   | true=>
    by_cases d3:k=3
    · subst d3
      cases b4 with
      | false=>
       rw [if_neg (by omega),if_neg (by simp),if_neg (by simp),if_pos rfl,if_neg (by simp)];rw [<- An];rw [<- AL] at osp org okd ock ov1 ov2 ov3;simp only [Ab,Ac,Aa4,Aa0];simp only [S8,Ag,SG,seval,UT,SC,hlen,Lz,osp,org,okd,ock,ov1,ov2,ov3,c1,c2];exact ⟨_,rfl⟩
      | true=>
       rw [if_neg (by omega),if_neg (by simp),if_neg (by simp),if_pos rfl,if_pos rfl];rw [<- An];rw [<- AL] at osp org okd ock ov1 ov2 ov3;simp only [Ab,Ac,Aa4,Aa0];simp only [S8,Ag,SG,seval,UT,SC,hlen,Lz,osp,org,okd,ock,ov1,ov2,ov3,c1,c2];exact ⟨_,rfl⟩
    · by_cases d2:k=2
      · subst d2
        cases b5 with
        | false=>
         rw [if_neg (by omega),if_neg (by simp),if_neg (by simp),if_neg (by omega),if_pos rfl,if_neg (by simp)];rw [<- An];rw [<- AL] at osp org okd ock ov1 ov2 ov3;simp only [Ab,Ac,Aa4,Aa0];simp only [S8,Ag,SG,seval,UT,SC,hlen,Lz,osp,org,okd,ock,ov1,ov2,ov3,c1,c2];exact ⟨_,rfl⟩
        | true=>
         cases b6 with
         | false=>
          rw [if_neg (by omega),if_neg (by simp),if_neg (by simp),if_neg (by omega),if_pos rfl,if_neg (by simp)];rw [<- An];rw [<- AL] at osp org okd ock ov1 ov2 ov3;simp only [Ab,Ac,Aa4,Aa0];simp only [S8,Ag,SG,seval,UT,SC,hlen,Lz,osp,org,okd,ock,ov1,ov2,ov3,c1,c2];exact ⟨_,rfl⟩
         | true=>
          rw [if_neg (by omega),if_neg (by simp),if_neg (by simp),if_neg (by omega),if_pos rfl,if_pos (by simp)];rw [<- An];rw [<- AL] at osp org okd ock ov1 ov2 ov3;simp only [Ab,Ac,Aa4,Aa0];simp only [S8,Ag,SG,seval,UT,SC,hlen,Lz,osp,org,okd,ock,ov1,ov2,ov3,c1,c2];exact ⟨_,rfl⟩
      · by_cases d1:k=1
        · subst d1
          by_cases e1:ck=0
          · subst e1
            by_cases e2:vk=0
            · subst e2
              rw [if_neg (by omega),if_neg (by simp),if_neg (by simp),if_neg (by omega),if_neg (by omega),if_pos rfl,if_neg (by simp),if_pos rfl];rw [<- An];rw [<- AL] at osp org okd ock ov1 ov2 ov3;simp only [Ab,Ac,Aa4,Aa0];simp only [S8,Ag,SG,seval,UT,SC,hlen,Lz,osp,org,okd,ock,ov1,ov2,ov3,c1,c2];exact ⟨_,rfl⟩
            · have e2p:(vk == 0)=false:=by simpa using e2
              rw [if_neg (by omega),if_neg (by simp),if_neg (by simp),if_neg (by omega),if_neg (by omega),if_pos rfl,if_neg (by simp),if_neg e2];rw [<- An];rw [<- AL] at osp org okd ock ov1 ov2 ov3;simp only [Ab,Ac,Aa4,Aa0];simp only [S8,Ag,SG,seval,UT,SC,hlen,Lz,osp,org,okd,ock,ov1,ov2,ov3,c1,c2,e2p];exact ⟨_,rfl⟩
          · have e1p:(ck != 0)=true:=by simpa using e1
            rw [if_neg (by omega),if_neg (by simp),if_neg (by simp),if_neg (by omega),if_neg (by omega),if_pos rfl,if_pos e1];rw [<- An];rw [<- AL] at osp org okd ock ov1 ov2 ov3;simp only [Ab,Ac,Aa4,Aa0];simp only [S8,Ag,SG,seval,UT,SC,hlen,Lz,osp,org,okd,ock,ov1,ov2,ov3,c1,c2,e1p];exact ⟨_,rfl⟩
        · have d1p:(k == 1)=false:=by simpa using d1
          have d2p:(k == 2)=false:=by simpa using d2
          have d3p:(k == 3)=false:=by simpa using d3
          rw [if_neg (by omega),if_neg (by simp),if_neg (by simp),if_neg d3,if_neg d2,if_neg d1];rw [<- An];rw [<- AL] at osp org okd ock ov1 ov2 ov3;simp only [Ab,Ac,Aa4,Aa0];simp only [S8,Ag,SG,seval,UT,SC,hlen,Lz,osp,org,okd,ock,ov1,ov2,ov3,c1,c2,d1p,d2p,d3p];exact ⟨_,rfl⟩
theorem V' (t:Tr) (hs:y9 t) (bx):Ai CC (Ad CC) 61 [BE t] bx=some (.ret (.int .i64 (S6 t)),bx):=by
 obtain ⟨b,h⟩:=Rm t hs;exact Aq rfl (by simp only [AO,BH,Bu,Aa9]) h rfl
theorem Tw:Be CC Aae (Aae.body.getD .skip)=true:=by kernel_rfl
theorem Rn:CC.P.funcs[31]?=some Aae:=by kernel_rfl
theorem Wa:Be CC Aad (Aad.body.getD .skip)=true:=by kernel_rfl
theorem Tx:CC.P.funcs[59]?=some Aad:=by kernel_rfl
theorem Py:Be CC Aaa (Aaa.body.getD .skip)=true:=by kernel_rfl
theorem N3:CC.P.funcs[60]?=some Aaa:=by kernel_rfl
theorem Ro:Be CC Aa5 (Aa5.body.getD .skip)=true:=by kernel_rfl
theorem Pz:CC.P.funcs[114]?=some Aa5:=by kernel_rfl
theorem HG {x:List PV} {b:List PBox} (h:x.length.ble Aa5.ntmps=true):Ad CC 114 x b=CM CC Aa5.results.toList (Co CC (Aa5.body.getD .skip) ⟨x,b⟩):=Ah (fn:=Aa5) (c:=Aa5.body.getD .skip) rfl rfl Pz rfl Ro (Aa3 h)
mutual
def U4:Tr->Int->Int->Int×Int
 | .mk k n m nm v key kids,lv,b=>if 24 < lv then (b,22) else if 200<=b then (b,3) else if S6 (.mk k n m nm v key kids)≠0 then (b,S6 (.mk k n m nm v key kids)) else L4 kids (lv+1) (b+1)
def L4:List Tr->Int->Int->Int×Int
 | [],_,b=>(b,0)
 | t :: r,lv,b=>if (U4 t lv b).2≠0 then U4 t lv b else L4 r lv (U4 t lv b).1
end
mutual
def EJ:Tr->Prop
 | .mk k n m nm v key kids=>(nm.length<=100/\v.2.2.length<=100/\key.2.1.length<=100/\key.2.2.length<=100/\kids.length<=12)/\C5 kids
def C5:List Tr->Prop
 | []=>True
 | t :: r=>EJ t/\C5 r
end
mutual
theorem U5 (t:Tr) (left levels:Int) (h:0<=Xq t left levels):EJ t:=by
 match t with
 | .mk k n m nm v key kids=>
  unfold Xq at h;unfold EJ;split at h
  · omega
  · rename_i hc
    exact ⟨by omega,jb kids _ _ h⟩
theorem jb (l:List Tr) (left levels:Int) (h:0<=Pv l left levels):C5 l:=by
 match l with
 | []=>unfold C5;trivial
 | t :: r=>
  unfold Pv at h;unfold C5;split at h
  · omega
  · exact ⟨U5 t left levels (by omega),jb r _ _ h⟩
end
theorem rK {t:Tr} (h:EJ t):y9 t:=by
 obtain ⟨k,n,m,nm,v,key,kids⟩:=t;unfold EJ at h;exact ⟨h.1.1,h.1.2.1,h.1.2.2.1,h.1.2.2.2.1⟩
theorem wc:(∃ a b v,CC.P.underlying 99=some (.func a b v))/\tAgg CC 99=false/\tSize CC 99=some 1/\zeroCells CC 99=some [.nilf]:=
 ⟨⟨(match Aah.underlying 99 with | some (.func a _ _)=>a | _=>#[]),(match Aah.underlying 99 with | some (.func _ b _)=>b | _=>#[]),(match Aah.underlying 99 with | some (.func _ _ v)=>v | _=>false),by kernel_rfl⟩,by kernel_rfl,by kernel_rfl,by kernel_rfl⟩
def Qs (b:PBox):Prop:=∃ t cs,b=.cells t cs/\Al cs=true
def Vb:PBox:=.cells 99 [.fn 60 [] [.bp 2 0,.bp 1 0]]
def Sb:PBox:=.cells 99 [.fn 114 [] [.bp 4 0,.bp 5 0]]
def B6 (b0 b3:PBox) (f c:Int) (r:List PBox):List PBox:=b0 :: .cells 35 [.int .i64 f] :: .cells 3 [.int .i64 c] :: b3 :: Vb :: Sb :: r
section
variable (b0 b3:PBox) (f c:Int) (r:List PBox)
theorem G':(B6 b0 b3 f c r).length=r.length+6:=rfl
theorem Ty:(B6 b0 b3 f c r)[1]?=some (.cells 35 [.int .i64 f]):=rfl
theorem Tz:(B6 b0 b3 f c r)[2]?=some (.cells 3 [.int .i64 c]):=rfl
theorem TA:(B6 b0 b3 f c r)[4]?=some Vb:=rfl
theorem TB:(B6 b0 b3 f c r)[5]?=some Sb:=rfl
theorem HU (x:PBox):B6 b0 b3 f c r++[x]=B6 b0 b3 f c (r++[x]):=rfl
theorem LH (f':Int):(B6 b0 b3 f c r).set 1 (.cells 35 [.int .i64 f'])=B6 b0 b3 f' c r:=rfl
theorem LI (c':Int):(B6 b0 b3 f c r).set 2 (.cells 3 [.int .i64 c'])=B6 b0 b3 f c' r:=rfl
theorem Gf (x:PBox):(B6 b0 b3 f c (r++[x]))[r.length+6]?=some x:=by
 show (r++[x])[r.length]?=some x;rw [List.getElem?_concat_length]
theorem LJ (x y:PBox):(B6 b0 b3 f c (r++[x])).set (r.length+6) y=B6 b0 b3 f c (r++[y]):=by
 show b0 :: .cells 35 [.int .i64 f] :: .cells 3 [.int .i64 c] :: b3 :: Vb :: Sb :: (r++[x]).set r.length y=_;rw [List.set_append_right _ _ (Nat.le_refl _),Nat.sub_self];rfl
end
mutual
theorem Rp (n:Nat) (v:PV) (h:v.pure=true):v.under n=true:=by
 match v with
 | .top=>simp [PV.pure] at h
 | .bp _ _=>simp [PV.pure] at h
 | .sl xs=>unfold PV.pure at h;unfold PV.under;exact Cv n xs h
 | .osl _ xs=>unfold PV.pure at h;unfold PV.under;exact Cv n xs h
 | .ip xs=>unfold PV.pure at h;unfold PV.under;exact Cv n xs h
 | .agg xs=>unfold PV.pure at h;unfold PV.under;exact Cv n xs h
 | .tup xs=>unfold PV.pure at h;unfold PV.under;exact Cv n xs h
 | .fn _ a b=>
  unfold PV.pure at h;unfold PV.under;rw [Aab] at h |-;exact ⟨Cv n a h.1,Cv n b h.2⟩
 | .iface _ v=>unfold PV.pure at h;unfold PV.under;exact Rp n v h
 | .bool _=>simp [PV.under]
 | .int _ _=>simp [PV.under]
 | .str _=>simp [PV.under]
 | .nils=>simp [PV.under]
 | .nilp=>simp [PV.under]
 | .nilf=>simp [PV.under]
 | .nili=>simp [PV.under]
theorem Cv (n:Nat) (l:List PV) (h:Al l=true):Ar n l=true:=by
 match l with
 | []=>simp [Ar]
 | v :: r=>
  unfold Al at h;unfold Ar;rw [Aab] at h |-;exact ⟨Rp n v h.1,Cv n r h.2⟩
end
theorem Qs.under {b:PBox} (h:Qs b) (n:Nat):b.under n=true:=by
 obtain ⟨t,cs,rfl,hp⟩:=h;exact Cv n cs hp
theorem Qs.tr (t:Tr):Qs (.cells 29 (BE t).cells):=by
 refine ⟨_,_,rfl,?_⟩;have h:=BH t;obtain ⟨k,n,m,nm,v,key,kids⟩:=t;unfold BE at h |-;unfold PV.pure at h;exact h
theorem jc {b0 b3:PBox} {f c:Int} {r ex:List PBox} (h0:Qs b0) (h3:Qs b3) (hr:∀ x ∈ r,Qs x) (b:Bool):Es (r.length+6) (.ret (.bool b)) (B6 b0 b3 f c (r++ex))=B6 b0 b3 f c r:=by
 have ht:(B6 b0 b3 f c (r++ex)).take (r.length+6)=B6 b0 b3 f c r:=by
  show List.take (r.length+6) (b0 :: .cells 35 [.int .i64 f] :: .cells 3 [.int .i64 c] :: b3 :: Vb :: Sb :: (r++ex))=_;simp only [List.take_succ_cons,List.take_left'];rfl
 unfold Es;rw [ht,if_pos];rw [Aab];refine ⟨by simp [CR.under,PV.under],?_⟩;show (b0 :: .cells 35 [.int .i64 f] :: .cells 3 [.int .i64 c] :: b3 :: Vb :: Sb :: r).all _=true;rw [List.all_eq_true];intro x hx;rcases Aa6.1 hx with rfl | hx
 · exact h0.under _
 rcases Aa6.1 hx with rfl | hx
 · rfl
 rcases Aa6.1 hx with rfl | hx
 · rfl
 rcases Aa6.1 hx with rfl | hx
 · exact h3.under _
 rcases Aa6.1 hx with rfl | hx
 · simp [Vb,PBox.under,Ar,PV.under]
 rcases Aa6.1 hx with rfl | hx
 · simp [Sb,PBox.under,Ar,PV.under]
 exact (hr x hx).under _
theorem Rq {f:FuncId} {args:List PV} {b0 b3:PBox} {fo c fo' c':Int} {r ex:List PBox} {b:Bool} (hp:Al args=false) (h0:Qs b0) (h3:Qs b3) (hr:∀ x ∈ r,Qs x)
 (h:Ad CC f args (B6 b0 b3 fo c r)=some (.ret (.bool b),B6 b0 b3 fo' c' (r++ex))):Ai CC (Ad CC) f args (B6 b0 b3 fo c r)=some (.ret (.bool b),B6 b0 b3 fo' c' r):=by
 unfold Ai;rw [if_pos (by rw [hp];simp),h];simp only [G'];rw [jc h0 h3 hr]
def jd (t:Tr) (lv c:Int):Int:=if 24 < lv then 22 else if 200<=c then 3 else S6 t
theorem aB (t:Tr) (hs:EJ t) (b0 b3:PBox) (f c lv:Int) (r:List PBox) (hc:0<=c) (rl:c<=200) :
 Ad CC 60 [BE t,.int .i64 lv,.bp 2 0,.bp 1 0] (B6 b0 b3 f c r)=some (.ret (.bool (jd t lv c == 0)),B6 b0 b3 (jd t lv c) (c+1) (r++[.cells 29 (BE t).cells])):=by
 rw [Ah (fn:=Aaa) (c:=Aaa.body.getD .skip) rfl rfl N3 rfl Py (Aa3 rfl)];have pS:=V' t (rK hs);unfold jd;generalize S6 t=nd at *;obtain ⟨k,n,m,nm,v,key,kids⟩:=t;unfold BE at pS |-;have hw:=wrap_i64 (n:=c+1) ⟨by omega,by omega⟩;have hlen:True:=trivial;generalize A8 kids=xs at *;by_cases c1:lv > 24
 · rw [if_pos c1]
   rw [<- An];simp only [Ab,Ac,Aaa,Aa0];simp only [S9,Ag,seval,hlen,G',Ty,Tz,TA,TB,HU,LH,LI,Gf,LJ,Az,hw,c1]
 · rw [if_neg c1]
   by_cases c2:200<=c
   · have c2':c+1 > 200:=by omega
     rw [if_pos c2];rw [<- An];simp only [Ab,Ac,Aaa,Aa0];simp only [S9,Ag,seval,hlen,G',Ty,Tz,TA,TB,HU,LH,LI,Gf,LJ,Az,hw,c1,c2']
   · have c2':¬ c+1 > 200:=by omega
     rw [if_neg c2];rw [<- An];rw [<- AL] at pS;simp only [Ab,Ac,Aaa,Aa0];simp only [S9,Ag,seval,hlen,G',Ty,Tz,TA,TB,HU,LH,LI,Gf,LJ,Az,hw,c1,c2',pS]
theorem je (t:Tr) (hs:EJ t) {b0 b3:PBox} (f c lv:Int) {r:List PBox} (h0:Qs b0) (h3:Qs b3) (hr:∀ x ∈ r,Qs x) (hc:0<=c) (rl:c<=200) :
 Ai CC (Ad CC) 60 [BE t,.int .i64 lv,.bp 2 0,.bp 1 0] (B6 b0 b3 f c r)=some (.ret (.bool (jd t lv c == 0)),B6 b0 b3 (jd t lv c) (c+1) r):=
 Rq (by simp only [AO,BH] <;> rfl) h0 h3 hr (aB t hs b0 b3 f c lv r hc rl)
def uX (t:Tr):Prop:=∀ (b0 b3:PBox) (lv f c:Int) (r:List PBox),Qs b0->Qs b3->(∀ x ∈ r,Qs x)->0<=c->c<=200->1<=lv->lv<=25 ->
 ∃ c' ex,Ad CC 114 [BE t,.int .i64 lv,.bp 4 0,.bp 5 0] (B6 b0 b3 f c r)=some (.ret (.bool ((U4 t lv c).2 == 0)),B6 b0 b3 (U4 t lv c).2 c' (r++ex))/\((U4 t lv c).2=0->c'=(U4 t lv c).1/\0<=c'/\c'<=200)
def rL (b0 b3:PBox) (r:List PBox) (w:Int×Int) (res:Option (Ex×St)):Prop:=∃ e' c' ex,(w.2=0/\c'=w.1/\0<=c'/\c'<=200/\res=some (.exit 0,⟨e',B6 b0 b3 0 c' (r++ex)⟩))\/(w.2≠0/\res=some (.ret,⟨e',B6 b0 b3 w.2 c' (r++ex)⟩)/\getT e' 6=.bool false)
theorem rL.app {b0 b3:PBox} {r:List PBox} {x:PBox} {w:Int×Int} {res:Option (Ex×St)} (h:rL b0 b3 (r++[x]) w res):rL b0 b3 r w res:=by
 obtain ⟨e',c',ex,h⟩:=h;refine ⟨e',c',[x]++ex,?_⟩;rw [<- List.append_assoc];exact h
theorem fm (L:Code) (hL:L=Ab Aa5 [1,1,0,1,0]) (b0 b3:PBox) (h0:Qs b0) (h3:Qs b3) (lv:Int) (yJ:1<=lv) (hlv':lv<=24) (l:List Tr) (hl:l.length<=12) (hk:∀ t ∈ l,uX t):∀ (k i:Nat) (e:List PV) (r:List PBox) (c:Int),i+k=l.length->(∀ x ∈ r,Qs x)->0<=c->c<=200 ->
 getT e 1=.int .i64 lv->getT e 3=.bp 5 0->getT e 15=.sl (A8 l)->getT e 16=.int .i64 l.length->getT e 17=.int .i64 i->rL b0 b3 r (L4 (l.drop i) (lv+1) c) (Co CC L ⟨e,B6 b0 b3 0 c r⟩):=by
 intro k
 induction k with
 | zero=>
  intro i e r c D3 hr hc rl e1 e3 e15 e16 e17;rw [A3 (Ab Aa5 [1,1,0,1,0,0]) hL];have hi:¬ ((i:Int) < (l.length:Int)):=by omega
  rw [List.drop_eq_nil_of_le (by omega)];unfold L4;obtain ⟨⟨fa,fb,fv,mU⟩,mV,mW,hU⟩:=wc;have hlen:True:=trivial;generalize A8 l=xs at *;rw [<- An];simp only [Ab,Ac,Aa5,Aa0];simp only [S9,Ag,seval,hlen,G',Ty,Tz,TA,TB,HU,LH,LI,Gf,LJ,Az,e1,e3,e15,e16,e17,hi];exact ⟨_,c,[],.inl ⟨rfl,rfl,hc,rl,by rw [List.append_nil]⟩⟩
 | succ k ih=>
  intro i e r c D3 hr hc rl e1 e3 e15 e16 e17;rw [A3 (Ab Aa5 [1,1,0,1,0,0]) hL];have hi:((i:Int) < (l.length:Int)):=by omega
  have Gb:¬ ((i:Int) < 0):=by omega
  have IU:l.drop i=(l[i]'(by omega)) :: l.drop (i+1):=List.drop_eq_getElem_cons (by omega);have hx:l[i]?=some (l[i]'(by omega)):=by simp
  have Ez:uX (l[i]'(by omega)):=hk _ (List.getElem_mem _);generalize l[i]'(by omega)=x at *;have Hw:=Rf hx;have Lz:=Dg l;have Mt:=wrap_i64 (n:=(i:Int)+1) ⟨by omega,by omega⟩;have vu:=wrap_i64 (n:=lv+1) ⟨by omega,by omega⟩
  have VE:∀ y ∈ r++[PBox.cells 29 (BE x).cells],Qs y:=by
   intro y hy;rcases Aai.1 hy with h | h
   · exact hr y h
   · simp at h;rw [h];exact Qs.tr x
  have key:=fun e c=>ih (i+1) e (r++[PBox.cells 29 (BE x).cells]) c (by omega) VE;have cast1:((i+1:Nat):Int)=(i:Int)+1:=by omega
  rw [cast1] at key;rw [IU];unfold L4;obtain ⟨c',ex,Bn,hcnt⟩:=Ez b0 b3 (lv+1) 0 c (r++[PBox.cells 29 (BE x).cells]) h0 h3 VE hc rl (by omega) (by omega);have Bc:=Rq (by simp only [AO,BH] <;> rfl) h0 h3 VE Bn;clear Bn;generalize U4 x (lv+1) c=w at *;obtain ⟨w1,w2⟩:=w;simp only at Bc hcnt |-;have xZ:=BH x;obtain ⟨⟨fa,fb,fv,mU⟩,mV,mW,hU⟩:=wc;have hlen:True:=trivial;obtain ⟨xk,xn,xm,xnm,xv,xkey,xkids⟩:=x;unfold BE at Hw Bc xZ key;generalize A8 xkids=ys at *;generalize A8 l=xs at *;simp only [SA] at Bc key;by_cases c1:w2=0
  · subst c1
    obtain ⟨rfl,g0,g1⟩:=hcnt rfl;rw [if_neg (by simp)];simp only [BEq.rfl] at Bc;apply rL.app;rw [<- An];rw [<- An] at key;rw [<- AL] at Bc;simp only [Ab,Ac,Aa5,Aa0];simp only [S9,Ag,seval,hlen,G',Ty,Tz,TA,TB,HU,LH,LI,Gf,LJ,Az,e1,e3,e15,e16,e17,hi,Gb,Hw,Mt,vu,Sb,Bc,LG,mU,mV,mW,hU];refine key _ _ g0 g1 ?_ ?_ ?_ ?_ ?_
    all_goals simp only [S7,Ag,seval,e1,e3,e15,e16,e17]
  · rw [if_pos c1]
    have c1p:(w2 == 0)=false:=by simpa using c1
    rw [c1p] at Bc;rw [<- An];rw [<- AL] at Bc;simp only [Ab,Ac,Aa5,Aa0];simp only [S9,Ag,seval,hlen,G',Ty,Tz,TA,TB,HU,LH,LI,Gf,LJ,Az,e1,e3,e15,e16,e17,hi,Gb,Hw,Mt,vu,Sb,Bc,LG,mU,mV,mW,hU];exact ⟨_,_,_,.inr ⟨c1,rfl,by simp only [S7,Ag,seval]⟩⟩
theorem fp (t:Tr) (hs:EJ t) (kids:List Tr) (rm:(match t with | .mk _ _ _ _ _ _ l=>l)=kids) (hk:∀ t ∈ kids,uX t):uX t:=by
 intro b0 b3 lv f c r h0 h3 hr hc rl yJ hlv'
 have VE:∀ y ∈ r++[PBox.cells 29 (BE t).cells],Qs y:=by
  intro y hy;rcases Aai.1 hy with h | h
  · exact hr y h
  · simp at h;rw [h];exact Qs.tr t
 have mX:=je t hs f c lv h0 h3 VE hc rl
 have uE:kids.length<=12:=by
  obtain ⟨k,n,m,nm,v,key,l⟩:=t;simp only at rm;subst rm;unfold EJ at hs;exact hs.1.2.2.2.2
 have hwk:U4 t lv c=if jd t lv c=0 then L4 kids (lv+1) (c+1) else (c,jd t lv c):=by
  obtain ⟨k,n,m,nm,v,key,l⟩:=t;simp only at rm;subst rm;unfold U4 jd;by_cases d1:24 < lv
  · rw [if_pos d1,if_pos d1,if_neg (by decide)]
  · rw [if_neg d1,if_neg d1]
    by_cases d2:200<=c
    · rw [if_pos d2,if_pos d2,if_neg (by decide)]
    · rw [if_neg d2,if_neg d2]
      by_cases d3:S6 (.mk k n m nm v key l)=0
      · rw [if_neg (fun h=>h d3),if_pos d3]
      · rw [if_pos d3,if_neg d3]
 have Lz:=Dg kids
 have hlv24:jd t lv c=0->lv<=24/\c < 200:=by
  intro h;unfold jd at h;split at h
  · omega
  · split at h
    · omega
    · omega
 rw [hwk];generalize jd t lv c=er at *;obtain ⟨⟨fa,fb,fv,mU⟩,mV,mW,hU⟩:=wc;have hlen:True:=trivial;by_cases c1:er=0
 · subst c1
   obtain ⟨g1,g2⟩:=hlv24 rfl;rw [if_pos rfl];have key:=fun L hL e r hr e1 e3 e15 e16 e17=>fm L hL b0 b3 h0 h3 lv yJ g1 kids uE hk kids.length 0 e r (c+1) (by omega) hr (by omega) (by omega) e1 e3 e15 e16 e17;rw [List.drop_zero] at key;generalize L4 kids (lv+1) (c+1)=w at *;simp only [BEq.rfl] at mX;rw [HG rfl];obtain ⟨xk,xn,xm,xnm,xv,xkey,xkids⟩:=t;simp only at rm;subst rm;unfold BE at mX VE |-;generalize A8 xkids=xs at *;simp only [SA] at mX VE;rw [<- An];rw [<- An] at key;rw [<- AL] at mX;simp only [Ab,Ac,Aa5,Aa0];simp only [S9,Ag,seval,hlen,G',Ty,Tz,TA,TB,HU,LH,LI,Gf,LJ,Az,mX,Vb,Lz,mU,mV,mW,hU];generalize hE:Hp (Code.loop _) _=z
   have hP:rL b0 b3 r w z:=by
    rw [<- hE];apply rL.app;refine key _ rfl _ _ VE ?_ ?_ ?_ ?_ ?_
    all_goals first | (simp only [S7,Ag,seval];done) | (simp only [S7,Ag,seval] <;> rfl)
   obtain ⟨e',c',ex,⟨g3,g4,g5,g6,he⟩ | ⟨g3,he,g4⟩⟩:=hP
   · subst he
     rw [g3];simp only [S8,Ag,seval];exact ⟨c',ex,rfl,fun _=>⟨g4,g5,g6⟩⟩
   · subst he
     have g3p:(w.2 == 0)=false:=by simpa using g3
     rw [g3p];simp only [S8,Ag,seval,g4];exact ⟨c',ex,rfl,fun h=>absurd h g3⟩
 · have c1p:(er == 0)=false:=by simpa using c1
   rw [if_neg c1];simp only [c1p] at mX |-;rw [HG rfl];obtain ⟨xk,xn,xm,xnm,xv,xkey,xkids⟩:=t;unfold BE at mX |-;generalize A8 xkids=xs at *;simp only [SA] at mX;rw [<- An];rw [<- AL] at mX;simp only [Ab,Ac,Aa5,Aa0];simp only [S9,Ag,seval,hlen,G',Ty,Tz,TA,TB,HU,LH,LI,Gf,LJ,Az,mX,Vb,mU,mV,mW,hU];exact ⟨_,_,rfl,fun h=>absurd h c1⟩
mutual
theorem U6 (t:Tr) (hs:EJ t):uX t:=by
 match t,hs with
 | .mk k n m nm v key kids,hs=>
  have h2:C5 kids:=by unfold EJ at hs;exact hs.2
  exact fp _ hs kids rfl (Rr kids h2)
theorem Rr (l:List Tr) (hs:C5 l):∀ t ∈ l,uX t:=by
 match l,hs with
 | [],_=>intro t ht;simp at ht
 | x :: r,hs=>
  intro t ht;unfold C5 at hs;rcases Aa6.1 ht with h | h
  · rw [h];exact U6 x hs.1
  · exact Rr r hs.2 t h
end
def Km (t:Tr):Int:=(U4 t 1 0).2
theorem fq (t:Tr) (hs:EJ t) (cs:List PV) (JI:Al cs=true):∃ bx,Ad CC 59 [BE t,.fn 60 [] [.bp 2 0,.bp 1 0]] [.cells 29 cs,.cells 35 [.int .i64 0],.cells 3 [.int .i64 0]]=some (.ret (.bool (Km t == 0)),bx) /\
 bx.take 3=[.cells 29 cs,.cells 35 [.int .i64 (Km t)],bx.getD 2 default]/\∃ c',bx[2]?=some (.cells 3 [.int .i64 c']):=by
 have hb3:=Qs.tr t;obtain ⟨c',ex,Bn,_⟩:=U6 t hs (.cells 29 cs) (.cells 29 (BE t).cells) 1 0 0 [] ⟨_,_,rfl,JI⟩ hb3 (by simp) (by decide) (by decide) (by decide) (by decide);have Bc:=Rq (by simp only [AO,BH] <;> rfl) ⟨_,_,rfl,JI⟩ hb3 (by simp) Bn;clear Bn;unfold Km;generalize U4 t 1 0=w at *;obtain ⟨⟨fa,fb,fv,mU⟩,mV,mW,hU⟩:=wc;have hlen:True:=trivial;rw [Ah (fn:=Aad) (c:=Aad.body.getD .skip) rfl rfl Tx rfl Wa (Aa3 rfl)];obtain ⟨xk,xn,xm,xnm,xv,xkey,xkids⟩:=t;unfold BE at Bc |-;generalize A8 xkids=xs at *;simp only [SA] at Bc;unfold B6 Vb Sb at Bc;rw [<- An];rw [<- AL] at Bc;simp only [Ab,Ac,Aad,Aa0];simp only [S9,Ag,seval,hlen,G',Ty,Tz,TA,TB,HU,LH,LI,Gf,LJ,Az,Bc,mU,mV,mW,hU,Aa7,Aa8];exact ⟨_,rfl,rfl,c',rfl⟩
theorem ZE:zeroCells CC 35=some [.int .i64 0]/\zeroCells CC 3=some [.int .i64 0]:=⟨by kernel_rfl,by kernel_rfl⟩
theorem nL (t:Tr) (hs:EJ t) (cs:List PV) (JI:Al cs=true):∃ c':Int,Ai CC (Ad CC) 59 [BE t,.fn 60 [] [.bp 2 0,.bp 1 0]] [.cells 29 cs,.cells 35 [.int .i64 0],.cells 3 [.int .i64 0]] =
 some (.ret (.bool (Km t == 0)),[.cells 29 cs,.cells 35 [.int .i64 (Km t)],.cells 3 [.int .i64 c']]):=by
 obtain ⟨bx,h1,h2,c',h3⟩:=fq t hs cs JI;refine ⟨c',?_⟩;have h4:bx.getD 2 default=.cells 3 [.int .i64 c']:=by rw [List.getD_eq_getElem?_getD,h3];rfl
 rw [h4] at h2;unfold Ai;rw [if_pos (by simp only [AO,BH,ja] <;> rfl),h1];simp only;unfold Es;simp only [List.length_cons,List.length_nil];rw [h2,if_pos];rw [Aab];refine ⟨by simp [CR.under,PV.under],?_⟩;simp only [List.all_cons,List.all_nil,Aaf,PBox.under,Cv _ _ JI];simp [Ar,PV.under]
theorem PA (t:Tr) (hs:EJ t):∃ bx,Ad CC 31 [BE t] []=some (.ret (.int .i64 (Km t)),bx):=by
 have hp:=BH t
 have hw:=nL t hs (BE t).cells (by
  obtain ⟨k,n,m,nm,v,key,kids⟩:=t;unfold BE at hp |-;unfold PV.pure at hp;exact hp)
 obtain ⟨c',hw⟩:=hw;generalize Km t=er at *;obtain ⟨⟨fa,fb,fv,mU⟩,mV,mW,hU⟩:=wc;obtain ⟨z1,z2⟩:=ZE;have hlen:True:=trivial;rw [Ah (fn:=Aae) (c:=Aae.body.getD .skip) rfl rfl Rn rfl Tw (Aa3 rfl)];obtain ⟨xk,xn,xm,xnm,xv,xkey,xkids⟩:=t;unfold BE at hw |-;generalize A8 xkids=xs at *;simp only [SA] at hw;rw [<- An];rw [<- AL] at hw;simp only [Ab,Ac,Aae,Aa0];simp only [S9,Ag,seval,hlen,G',Ty,Tz,TA,TB,HU,LH,LI,Gf,LJ,Az,hw,mU,mV,mW,hU,z1,z2,Aa7,Aa8];exact ⟨_,rfl⟩
theorem HV (t:Tr) (hs:EJ t) (bx):Ai CC (Ad CC) 31 [BE t] bx=some (.ret (.int .i64 (Km t)),bx):=by
 obtain ⟨b,h⟩:=PA t hs;exact Aq rfl (by simp only [AO,BH,Bu,Aa9]) h rfl
set_option maxHeartbeats 4000000
end Go.HH
