/-
  What the law needs, packed: Q2.
-/
import Derived.Test.YthjcaihemgllaaaGreatDoorK33
open Option renaming getD->Aau
open List renaming getElem?_concat_length->Aav,mem_cons->Ab2,set_cons_zero->Ab4,set_cons_succ->Ab5,drop_eq_getElem_cons->Abb,drop_eq_nil_of_le->Abd,getElem_mem->Abg,mem_append->Abh,drop_zero->Abi
open Go.Proofs.Tryz renaming f117->Aaw,f115->Aay,f13->Aaz,f61->Ab0,f114->Ab1,f60->Ab6,f116->Ab8,f59->Ab9,f31->Aba,prog->Abf
open Nat renaming le_of_ble_eq_true->Aax
open Bool renaming and_self->Ab3,and_eq_true->Ab7,and_true->Abc,not_not->Abe
namespace Go.HH
open Go Go.Proofs
set_option maxRecDepth 100000
set_option linter.unusedSimpArgs false
set_option linter.unusedVariables false
theorem TA:Be CC Aaz (Aaz.body.getD .skip)=true:=by kernel_rfl
theorem Rr:CC.P.funcs[13]?=some Aaz:=by kernel_rfl
theorem Ca {x:List PV} {b:List PBox} (h:x.length.ble Aaz.ntmps=true):Ad CC 13 x b=CD CC Aaz.results.toList (Cf CC (Aaz.body.getD .skip) ⟨x,b⟩):=Ah (fn:=Aaz) (c:=Aaz.body.getD .skip) rfl rfl Rr rfl TA (Aax h)
mutual
theorem Bz (t:Tr):(Bw t).pure=true:=by
 match t with
 | .mk k n m nm v key kids=>
  unfold Bw;have h:=AW kids;simp only [PV.pure,Ak,h,Ab3,Bool.true_and,Abc]
theorem AW (l:List Tr):Ak (A1 l)=true:=by
 match l with
 | []=>unfold A1;rfl
 | t :: r=>
  unfold A1;rw [AK,Bz t,AW r];rfl
end
mutual
def Tn:Tr->Int->Int->Int
 | .mk k n m nm v key kids,left,levels=>if left < 1\/levels < 1\/12 < kids.length\/100 < nm.length\/100 < v.2.2.length\/100 < key.2.1.length\/100 < key.2.2.length then -1 else Iv kids (left - 1) (levels - 1)
def Iv:List Tr->Int->Int->Int
 | [],left,_=>left
 | t :: r,left,levels=>if Tn t left levels < 0 then -1 else Iv r (Tn t left levels) levels
end
def sy (t:Tr):Prop:=∀ left levels:Int,left<=1000->levels<=1000->(∃ bx,Ad CC 13 [Bw t,.int .i64 left,.int .i64 levels] []=some (.ret (.int .i64 (Tn t left levels)),bx))/\Tn t left levels<=1000
def PMd (res:Int) (r:Option (Ex×St)):Prop:=∃ e' bx',(0<=res/\r=some (.exit 0,⟨e',bx'⟩)/\getT e' 1=.int .i64 res)\/(res < 0/\r=some (.ret,⟨e',bx'⟩)/\getT e' 6=.int .i64 (-1))
theorem MT {t:Tr} (h:sy t) (left levels:Int) (h1:left<=1000) (h2:levels<=1000) (bx):Ai CC (Ad CC) 13 [Bw t,.int .i64 left,.int .i64 levels] bx=some (.ret (.int .i64 (Tn t left levels)),bx):=by
 obtain ⟨⟨b,hb⟩,_⟩:=h left levels h1 h2;exact Ao rfl (by simp only [AK,Bz,Kp,Bk,Ab3]) hb rfl
theorem Yp (L:Code) (hL:L=Aa Aaz [1,1,1,0,1,0]) (levels:Int) (uY:levels<=1000) (hlv0:1<=levels) (l:List Tr) (hl:l.length<=1000000) (hk:∀ t ∈ l,sy t):∀ (k i:Nat) (e:List PV) (bx:List PBox) (left:Int),i+k=l.length->0<=left->left<=1000 ->
 getT e 1=.int .i64 left->getT e 2=.int .i64 levels->getT e 51=.sl (A1 l)->getT e 52=.int .i64 l.length->getT e 53=.int .i64 i->PMd (Iv (l.drop i) left (levels - 1)) (Cf CC L ⟨e,bx⟩):=by
 intro k
 induction k with
 | zero=>
  intro i e bx left DK hle vm h1 h2 nD nE nF;rw [AX (Aa Aaz [1,1,1,0,1,0,0]) hL];have hi:¬ ((i:Int) < (l.length:Int)):=by omega
  rw [Abd (by omega)];unfold Iv;have hlen:True:=trivial;generalize A1 l=xs at *;rw [<- Al];simp only [Aa,Ac,Aaz,Aau];simp only [S8,Af,SG,seval,UT,SC,HY,Aav,hlen,h1,h2,nD,nE,nF,hi];exact ⟨_,_,.inl ⟨hle,rfl,by simp only [S7,Af,seval,h1]⟩⟩
 | succ k ih=>
  intro i e bx left DK hle vm h1 h2 nD nE nF;rw [AX (Aa Aaz [1,1,1,0,1,0,0]) hL];have hi:((i:Int) < (l.length:Int)):=by omega
  have C4:¬ ((i:Int) < 0):=by omega
  have G1:l.drop i=(l[i]'(by omega)) :: l.drop (i+1):=Abb (by omega);have hx:l[i]?=some (l[i]'(by omega)):=by simp
  have NW:sy (l[i]'(by omega)):=hk _ (Abg _);generalize l[i]'(by omega)=x at *;have Gz:=MS hx;have Im:=Cv l;have I5:=wrap_i64 (n:=(i:Int)+1) ⟨by omega,by omega⟩;have vo:=wrap_i64 (n:=levels - 1) ⟨by omega,by omega⟩;have key:=fun e bx left=>ih (i+1) e bx left (by omega);have cast1:((i+1:Nat):Int)=(i:Int)+1:=by omega
  rw [cast1] at key;rw [G1];unfold Iv;have Bb:=MT NW left (levels - 1) vm (by omega);have ZP:=(NW left (levels - 1) vm (by omega)).2;have hlen:True:=trivial;generalize Tn x left (levels - 1)=res at *;have nG:=Bz x;obtain ⟨xk,xn,xm,xnm,xv,xkey,xkids⟩:=x;unfold Bw at Gz Bb nG;generalize A1 xkids=ys at *;generalize A1 l=xs at *;by_cases c1:res < 0
  · rw [if_pos c1]
    rw [<- Al];rw [<- AI] at Bb;simp only [Aa,Ac,Aaz,Aau];simp only [S8,Af,SG,seval,UT,SC,HY,Aav,hlen,h1,h2,nD,nE,nF,hi,C4,Gz,I5,vo,Bb,c1];exact ⟨_,_,.inr ⟨by decide,rfl,by simp only [S7,Af,seval]⟩⟩
  · rw [if_neg c1]
    rw [<- Al];rw [<- Al] at key;rw [<- AI] at Bb;simp only [Aa,Ac,Aaz,Aau];simp only [S8,Af,SG,seval,UT,SC,HY,Aav,hlen,h1,h2,nD,nE,nF,hi,C4,Gz,I5,vo,Bb,c1];refine key _ _ _ (by omega) ZP ?_ ?_ ?_ ?_ ?_
    all_goals simp only [S7,Af,seval,h1,h2,nD,nE,nF]
theorem jD:∀ (l:List Tr) (left levels:Int),-1<=left->-1<=Iv l left levels
 | [],_,_,h1=>by unfold Iv;exact h1
 | t :: r,left,levels,h1=>by
  unfold Iv;split
  · decide
  · exact jD r _ _ (by omega)
theorem jE:∀ (l:List Tr) (h:∀ t ∈ l,∀ left levels:Int,left<=1000->levels<=1000->Tn t left levels<=1000) (left levels:Int),left<=1000->levels<=1000->Iv l left levels<=1000
 | [],_,_,_,h1,_=>by unfold Iv;exact h1
 | t :: r,h,left,levels,h1,h2=>by
  unfold Iv;split
  · decide
  · exact jE r (fun x hx=>h x (by simp [hx])) _ _ (h t (by simp) _ _ h1 h2) h2
theorem Yq (k n m:Int) (nm:List UInt8) (v:Vl) (key:Ky) (kids:List Tr) (hk:∀ t ∈ kids,sy t):sy (.mk k n m nm v key kids):=by
 intro left levels hle uY;obtain ⟨vk,vn,vs⟩:=v;obtain ⟨dv,cl,at_⟩:=key;have Im:=Cv kids;have ZQ:=A7 nm;have ZR:=A7 vs;have ZS:=A7 cl;have ZT:=A7 at_;have hlen:True:=trivial;unfold Tn Bw;simp only;by_cases c1:left < 1
 · rw [if_pos (by omega)]
   refine ⟨?_,by decide⟩;rw [Ca rfl];generalize A1 kids=xs at *;rw [<- Al];simp only [Aa,Ac,Aaz,Aau];simp only [S8,Af,SG,seval,UT,SC,HY,Aav,hlen,Im,ZQ,ZR,ZS,ZT,c1];exact ⟨_,rfl⟩
 · by_cases c2:levels < 1
   · rw [if_pos (by omega)]
     refine ⟨?_,by decide⟩;rw [Ca rfl];generalize A1 kids=xs at *;rw [<- Al];simp only [Aa,Ac,Aaz,Aau];simp only [S8,Af,SG,seval,UT,SC,HY,Aav,hlen,Im,ZQ,ZR,ZS,ZT,c1,c2];exact ⟨_,rfl⟩
   · by_cases c3:(kids.length:Int) > 12
     · rw [if_pos (by omega)]
       refine ⟨?_,by decide⟩;rw [Ca rfl];generalize A1 kids=xs at *;rw [<- Al];simp only [Aa,Ac,Aaz,Aau];simp only [S8,Af,SG,seval,UT,SC,HY,Aav,hlen,Im,ZQ,ZR,ZS,ZT,c1,c2,c3];exact ⟨_,rfl⟩
     · by_cases c4:(nm.length:Int) > 100
       · rw [if_pos (by omega)]
         refine ⟨?_,by decide⟩;rw [Ca rfl];generalize A1 kids=xs at *;rw [<- Al];simp only [Aa,Ac,Aaz,Aau];simp only [S8,Af,SG,seval,UT,SC,HY,Aav,hlen,Im,ZQ,ZR,ZS,ZT,c1,c2,c3,c4];exact ⟨_,rfl⟩
       · by_cases c5:(vs.length:Int) > 100
         · rw [if_pos (by omega)]
           refine ⟨?_,by decide⟩;rw [Ca rfl];generalize A1 kids=xs at *;rw [<- Al];simp only [Aa,Ac,Aaz,Aau];simp only [S8,Af,SG,seval,UT,SC,HY,Aav,hlen,Im,ZQ,ZR,ZS,ZT,c1,c2,c3,c4,c5];exact ⟨_,rfl⟩
         · by_cases c6:(cl.length:Int) > 100
           · rw [if_pos (by omega)]
             refine ⟨?_,by decide⟩;rw [Ca rfl];generalize A1 kids=xs at *;rw [<- Al];simp only [Aa,Ac,Aaz,Aau];simp only [S8,Af,SG,seval,UT,SC,HY,Aav,hlen,Im,ZQ,ZR,ZS,ZT,c1,c2,c3,c4,c5,c6];exact ⟨_,rfl⟩
           · by_cases c7:(at_.length:Int) > 100
             · rw [if_pos (by omega)]
               refine ⟨?_,by decide⟩;rw [Ca rfl];generalize A1 kids=xs at *;rw [<- Al];simp only [Aa,Ac,Aaz,Aau];simp only [S8,Af,SG,seval,UT,SC,HY,Aav,hlen,Im,ZQ,ZR,ZS,ZT,c1,c2,c3,c4,c5,c6,c7];exact ⟨_,rfl⟩
             · rw [if_neg (by omega)]
               have hw:=wrap_i64 (n:=left - 1) ⟨by omega,by omega⟩;have qK:kids.length<=12:=by omega
               have key:=fun L hL e bx h1 h2 nD nE nF=>Yp L hL levels uY (by omega) kids (by omega) hk kids.length 0 e bx (left - 1) (by omega) (by omega) (by omega) h1 h2 nD nE nF;rw [Abi] at key;have Qy:-1<=Iv kids (left - 1) (levels - 1):=jD kids _ _ (by omega);have ZP:Iv kids (left - 1) (levels - 1)<=1000:=jE kids (fun t ht l v a b=>(hk t ht l v a b).2) _ _ (by omega) (by omega);generalize Iv kids (left - 1) (levels - 1)=res at *;refine ⟨?_,ZP⟩;rw [Ca rfl];generalize A1 kids=xs at *;rw [<- Al];rw [<- Al] at key;simp only [Aa,Ac,Aaz,Aau];simp only [S8,Af,SG,seval,UT,SC,HY,Aav,hlen,Im,ZQ,ZR,ZS,ZT,hw,c1,c2,c3,c4,c5,c6,c7];generalize hE:GM (Code.loop _) _=z
               have hP:PMd res z:=by
                rw [<- hE];refine key _ rfl _ _ ?_ ?_ ?_ ?_ ?_
                all_goals first | (simp only [S7,Af,seval];done) | (simp only [S7,Af,seval] <;> rfl)
               obtain ⟨e',bx',⟨h0,he,g1⟩ | ⟨h0,he,g6⟩⟩:=hP
               · subst he
                 simp only [S8,Af,seval,g1];exact ⟨_,rfl⟩
               · subst he
                 have:res=-1:=by omega
                 subst this;simp only [S8,Af,seval,g6];exact ⟨_,rfl⟩
mutual
theorem Po (t:Tr):sy t:=by
 match t with
 | .mk k n m nm v key kids=>exact Yq k n m nm v key kids (MU kids)
theorem MU (l:List Tr):∀ t ∈ l,sy t:=by
 match l with
 | []=>intro t ht;simp at ht
 | t :: r=>
  intro x hx;rcases Ab2.1 hx with h | h
  · rw [h];exact Po t
  · exact MU r x h
end
theorem Vi (t:Tr) (left levels:Int) (h1:left<=1000) (h2:levels<=1000) (bx):Ai CC (Ad CC) 13 [Bw t,.int .i64 left,.int .i64 levels] bx=some (.ret (.int .i64 (Tn t left levels)),bx):=MT (Po t) left levels h1 h2 bx
theorem TB:Be CC Ab8 (Ab8.body.getD .skip)=true:=by kernel_rfl
theorem Rs:CC.P.funcs[116]?=some Ab8:=by kernel_rfl
theorem Yr:A' CC 24 []=some (.agg [.int .i64 0,.int .i64 0,.str []]):=by kernel_rfl
theorem Br:A' CC 26 []=some (.agg [.int .i64 0,.str [],.str []]):=by kernel_rfl
def Fj (v w:Ky):Bool:=(v.1 == w.1) && (v.2.1 == w.2.1) && (v.2.2 == w.2.2)
theorem fP (a a':Int) (b b' c c':List UInt8):Mx CC 100 26 (.agg [.int .i64 a,.str b,.str c]) (.agg [.int .i64 a',.str b',.str c'])=some ((a == a') && (b == b') && (c == c')):=by
 have h:Mx CC 100 26 (.agg [.int .i64 a,.str b,.str c]) (.agg [.int .i64 a',.str b',.str c'])=Kt (a == a') (Kt (b == b') (Kt (c == c') (some true))):=by kernel_rfl
 rw [h];cases a == a' <;> cases b == b' <;> cases c == c' <;> rfl
theorem Cw:CC.P.eqGuardType CC.P.depth 26=false:=by kernel_rfl
theorem wS:Mx CC 100 24 (.agg [.int .i64 0,.int .i64 0,.str []]) (.agg [.int .i64 0,.int .i64 0,.str []])=some true:=by rw [oh];rfl
theorem wU:Mx CC 100 26 (.agg [.int .i64 0,.str [],.str []]) (.agg [.int .i64 0,.str [],.str []])=some true:=by rw [fP];rfl
def zO (k:Int) (b1 b2 b3 b4 b5:Bool):Bool:=(b1 && !(k == 4 || k == 5 || k == 15)) || (b2 && !(k == 4)) || (b3 && !(k == 3)) || (b4 && !(k == 1)) || (b5 && !(k == 2))
def iA:Tr->Bool
 | .mk k n m nm v key _=>zO k (n != 0) (m != 0) (!(nm == [])) (!(We v (0,0,[]))) (!(Fj key (0,[],[])))
set_option maxHeartbeats 20000000 in
theorem PJ (t:Tr):∃ bx,Ad CC 116 [Bw t] []=some (.ret (.bool (iA t)),bx):=by
 obtain ⟨k,n,m,nm,⟨vk,vn,vs⟩,⟨dv,cl,at_⟩,kids⟩:=t;unfold Bw iA;dsimp only;obtain ⟨b1,h0,h1,rS⟩:∃ b,(n != 0)=b/\(n != 0)=b/\(n == 0)=!b:=⟨_,rfl,rfl,by simp [bne]⟩;obtain ⟨b2,g0,h2,iE⟩:∃ b,(m != 0)=b/\(m != 0)=b/\(m == 0)=!b:=⟨_,rfl,rfl,by simp [bne]⟩;obtain ⟨b3,f0,h3,h3'⟩:∃ b,(!(nm == []))=b/\ED .neq nm []=some (.bool b)/\ED .eql nm []=some (.bool (!b)):=⟨_,rfl,rfl,by rw [Abe];rfl⟩;obtain ⟨b4,e0,h4⟩:∃ b,(!(We (vk,vn,vs) (0,0,[])))=b/\Mx CC 100 24 (.agg [.int .i64 vk,.int .i64 vn,.str vs]) (.agg [.int .i64 0,.int .i64 0,.str []])=some (!b):=⟨_,rfl,by rw [oh,Abe];rfl⟩;obtain ⟨b5,d0,h5⟩:∃ b,(!(Fj (dv,cl,at_) (0,[],[])))=b/\Mx CC 100 26 (.agg [.int .i64 dv,.str cl,.str at_]) (.agg [.int .i64 0,.str [],.str []])=some (!b):=⟨_,rfl,by rw [fP,Abe];rfl⟩;rw [h0,g0,f0,e0,d0];clear h0 g0 f0 e0 d0;have h3z:ED .neq [] []=some (.bool false):=rfl;have h3z':ED .eql [] []=some (.bool true):=rfl
 have hk:(k=1\/k=2\/k=3\/k=4\/k=5\/k=15)\/((k == 1)=false/\(k == 2)=false/\(k == 3)=false/\(k == 4)=false/\(k == 5)=false/\(k == 15)=false):=by
  simp only [beq_eq_false_iff_ne];omega
 generalize A1 kids=xs;rw [Ah (fn:=Ab8) (c:=Ab8.body.getD .skip) rfl rfl Rs rfl TB (Aax rfl)];rw [<- Al];simp only [Aa,Ac,Ab8,Aau];rcases hk with hk | ⟨k1,k2,k3,k4,k5,k6⟩
 · rcases hk with rfl | rfl | rfl | rfl | rfl | rfl
   all_goals cases b1 <;> cases b2 <;> cases b3 <;> cases b4 <;> cases b5
   all_goals
    simp only [S9,Af,seval,HY,Yr,Br,Gj,Cw,wS,wU,Ab4,Ab5,h1,rS,h2,iE,h3,h3',h3z,h3z',h4,h5];exact ⟨_,rfl⟩
 · cases b1 <;> cases b2 <;> cases b3 <;> cases b4 <;> cases b5
   all_goals
    simp only [S9,Af,seval,HY,Yr,Br,Gj,Cw,wS,wU,Ab4,Ab5,h1,rS,h2,iE,h3,h3',h3z,h3z',h4,h5,k1,k2,k3,k4,k5,k6,zO];exact ⟨_,rfl⟩
theorem TC (t:Tr) (bx):Ai CC (Ad CC) 116 [Bw t] bx=some (.ret (.bool (iA t)),bx):=by
 obtain ⟨b,h⟩:=PJ t;exact Ao rfl (by simp only [AK,Bz,Bk,Ab3]) h rfl
theorem Wg:Be CC Aay (Aay.body.getD .skip)=true:=by kernel_rfl
theorem TD:CC.P.funcs[115]?=some Aay:=by kernel_rfl
theorem BS {x:List PV} {b:List PBox} (h:x.length.ble Aay.ntmps=true):Ad CC 115 x b=CD CC Aay.results.toList (Cf CC (Aay.body.getD .skip) ⟨x,b⟩):=Ah (fn:=Aay) (c:=Aay.body.getD .skip) rfl rfl TD rfl Wg (Aax h)
theorem Rt:Be CC Aaw (Aaw.body.getD .skip)=true:=by kernel_rfl
theorem PK:CC.P.funcs[117]?=some Aaw:=by kernel_rfl
theorem Dg {x:List PV} {b:List PBox} (h:x.length.ble Aaw.ntmps=true):Ad CC 117 x b=CD CC Aaw.results.toList (Cf CC (Aaw.body.getD .skip) ⟨x,b⟩):=Ah (fn:=Aaw) (c:=Aaw.body.getD .skip) rfl rfl PK rfl Rt (Aax h)
theorem Wh:Be CC Ab0 (Ab0.body.getD .skip)=true:=by kernel_rfl
theorem TE:CC.P.funcs[61]?=some Ab0:=by kernel_rfl
def Em (k n:Int):Bool:=if k=6 then n == 1 else if k=7\/k=8 then decide (2<=n) && decide (n<=8) else if 9<=k/\k<=13 then n == 2 else if k=14 then n == 3 else n == 0
def Fk (k n m dv:Int):Bool:=if k=4 then decide (0<=n/\n < 1440/\0<=m/\m < 1440) else if k=5 then decide (1<=n/\n<=127) else if k=15 then decide (0<=n/\n<=4) else if k=2 then decide (1<=dv/\dv<=250) else true
def Wi:Tr->Int
 | .mk k n m nm v key kids=>if k < 1\/15 < k then 7 else if Em k kids.length=false\/iA (.mk k n m nm v key kids)=true then 1 else if Fk k n m key.1=false then 2 else
  if k=3 then (if B8 nm then 0 else 10) else if k=2 then (if B8 key.2.1 && B8 key.2.2 then 0 else 10) else if k=1 then (if Ku v≠0 then Ku v else if v.1=0 then 7 else 0) else 0
theorem Ys (n:Int):∃ bx,Ad CC 115 [.int .i64 6,.int .i64 n] []=some (.ret (.bool (Em 6 n)),bx):=by
 rw [BS rfl];have hlen:True:=trivial;rw [show Em 6 n=(n == 1) by simp [Em]];rw [<- Al];simp only [Aa,Ac,Aay,Aau];simp only [S8,Af,SG,seval,UT,SC,hlen];exact ⟨_,rfl⟩
theorem Yt (n:Int):∃ bx,Ad CC 115 [.int .i64 7,.int .i64 n] []=some (.ret (.bool (Em 7 n)),bx):=by
 rw [BS rfl];have hlen:True:=trivial;by_cases c1:n ≥ 2
 · by_cases c2:n<=8
   · rw [show Em 7 n=true by simp [Em];omega]
     rw [<- Al];simp only [Aa,Ac,Aay,Aau];simp only [S8,Af,SG,seval,UT,SC,hlen,c1,c2];exact ⟨_,rfl⟩
   · rw [show Em 7 n=false by simp [Em];omega]
     rw [<- Al];simp only [Aa,Ac,Aay,Aau];simp only [S8,Af,SG,seval,UT,SC,hlen,c1,c2];exact ⟨_,rfl⟩
 · rw [show Em 7 n=false by simp [Em];omega]
   rw [<- Al];simp only [Aa,Ac,Aay,Aau];simp only [S8,Af,SG,seval,UT,SC,hlen,c1];exact ⟨_,rfl⟩
theorem Yu (n:Int):∃ bx,Ad CC 115 [.int .i64 8,.int .i64 n] []=some (.ret (.bool (Em 8 n)),bx):=by
 rw [BS rfl];have hlen:True:=trivial;by_cases c1:n ≥ 2
 · by_cases c2:n<=8
   · rw [show Em 8 n=true by simp [Em];omega]
     rw [<- Al];simp only [Aa,Ac,Aay,Aau];simp only [S8,Af,SG,seval,UT,SC,hlen,c1,c2];exact ⟨_,rfl⟩
   · rw [show Em 8 n=false by simp [Em];omega]
     rw [<- Al];simp only [Aa,Ac,Aay,Aau];simp only [S8,Af,SG,seval,UT,SC,hlen,c1,c2];exact ⟨_,rfl⟩
 · rw [show Em 8 n=false by simp [Em];omega]
   rw [<- Al];simp only [Aa,Ac,Aay,Aau];simp only [S8,Af,SG,seval,UT,SC,hlen,c1];exact ⟨_,rfl⟩
theorem Yv (n:Int):∃ bx,Ad CC 115 [.int .i64 9,.int .i64 n] []=some (.ret (.bool (Em 9 n)),bx):=by
 rw [BS rfl];have hlen:True:=trivial;rw [show Em 9 n=(n == 2) by simp [Em]];rw [<- Al];simp only [Aa,Ac,Aay,Aau];simp only [S8,Af,SG,seval,UT,SC,hlen];exact ⟨_,rfl⟩
theorem Wj (n:Int):∃ bx,Ad CC 115 [.int .i64 10,.int .i64 n] []=some (.ret (.bool (Em 10 n)),bx):=by
 rw [BS rfl];have hlen:True:=trivial;rw [show Em 10 n=(n == 2) by simp [Em]];rw [<- Al];simp only [Aa,Ac,Aay,Aau];simp only [S8,Af,SG,seval,UT,SC,hlen];exact ⟨_,rfl⟩
theorem Wk (n:Int):∃ bx,Ad CC 115 [.int .i64 11,.int .i64 n] []=some (.ret (.bool (Em 11 n)),bx):=by
 rw [BS rfl];have hlen:True:=trivial;rw [show Em 11 n=(n == 2) by simp [Em]];rw [<- Al];simp only [Aa,Ac,Aay,Aau];simp only [S8,Af,SG,seval,UT,SC,hlen];exact ⟨_,rfl⟩
theorem Wl (n:Int):∃ bx,Ad CC 115 [.int .i64 12,.int .i64 n] []=some (.ret (.bool (Em 12 n)),bx):=by
 rw [BS rfl];have hlen:True:=trivial;rw [show Em 12 n=(n == 2) by simp [Em]];rw [<- Al];simp only [Aa,Ac,Aay,Aau];simp only [S8,Af,SG,seval,UT,SC,hlen];exact ⟨_,rfl⟩
theorem Wm (n:Int):∃ bx,Ad CC 115 [.int .i64 13,.int .i64 n] []=some (.ret (.bool (Em 13 n)),bx):=by
 rw [BS rfl];have hlen:True:=trivial;rw [show Em 13 n=(n == 2) by simp [Em]];rw [<- Al];simp only [Aa,Ac,Aay,Aau];simp only [S8,Af,SG,seval,UT,SC,hlen];exact ⟨_,rfl⟩
theorem Wn (n:Int):∃ bx,Ad CC 115 [.int .i64 14,.int .i64 n] []=some (.ret (.bool (Em 14 n)),bx):=by
 rw [BS rfl];have hlen:True:=trivial;rw [show Em 14 n=(n == 3) by simp [Em]];rw [<- Al];simp only [Aa,Ac,Aay,Aau];simp only [S8,Af,SG,seval,UT,SC,hlen];exact ⟨_,rfl⟩
theorem Yw (k n:Int) (hk6:(k == 6)=false) (hk7:(k == 7)=false) (hk8:(k == 8)=false) (hk9:(k == 9)=false) (hk10:(k == 10)=false) (hk11:(k == 11)=false) (hk12:(k == 12)=false) (hk13:(k == 13)=false) (hk14:(k == 14)=false) (hd:Em k n=(n == 0)):∃ bx,Ad CC 115 [.int .i64 k,.int .i64 n] []=some (.ret (.bool (Em k n)),bx):=by
 rw [BS rfl];have hlen:True:=trivial;rw [hd];rw [<- Al];simp only [Aa,Ac,Aay,Aau];simp only [S8,Af,SG,seval,UT,SC,hlen,hk6,hk7,hk8,hk9,hk10,hk11,hk12,hk13,hk14];exact ⟨_,rfl⟩
theorem Ru (k n:Int):∃ bx,Ad CC 115 [.int .i64 k,.int .i64 n] []=some (.ret (.bool (Em k n)),bx):=by
 by_cases c6:k=6
 · subst c6
   exact Ys n
 by_cases c7:k=7
 · subst c7
   exact Yt n
 by_cases c8:k=8
 · subst c8
   exact Yu n
 by_cases c9:k=9
 · subst c9
   exact Yv n
 by_cases c10:k=10
 · subst c10
   exact Wj n
 by_cases c11:k=11
 · subst c11
   exact Wk n
 by_cases c12:k=12
 · subst c12
   exact Wl n
 by_cases c13:k=13
 · subst c13
   exact Wm n
 by_cases c14:k=14
 · subst c14
   exact Wn n
 refine Yw k n (by simpa using c6) (by simpa using c7) (by simpa using c8) (by simpa using c9) (by simpa using c10) (by simpa using c11) (by simpa using c12) (by simpa using c13) (by simpa using c14) ?_;unfold Em;rw [if_neg c6,if_neg (by omega),if_neg (by omega),if_neg c14]
theorem Wo (k n:Int) (bx):Ai CC (Ad CC) 115 [.int .i64 k,.int .i64 n] bx=some (.ret (.bool (Em k n)),bx):=by
 obtain ⟨b,h⟩:=Ru k n;exact Ao rfl (by simp only [SA,Abc]) h rfl
theorem TH (n m:Int) (nm:List UInt8) (vk vn:Int) (vs:List UInt8) (dv:Int) (cl at_:List UInt8) (xs:List PV):∃ bx,Ad CC 117 [.agg [.int .i64 4,.int .i64 n,.int .i64 m,.str nm,.int .i64 vk,.int .i64 vn,.str vs,.int .i64 dv,.str cl,.str at_,.sl xs]] []=some (.ret (.bool (Fk 4 n m dv)),bx):=by
 rw [Dg rfl];have hlen:True:=trivial;by_cases c0:n ≥ 0
 · by_cases c1:n < 1440
   · by_cases c2:m ≥ 0
     · by_cases c3:m < 1440
       · rw [show Fk 4 n m dv=true by simp [Fk];omega]
         rw [<- Al];simp only [Aa,Ac,Aaw,Aau];simp only [S8,Af,SG,seval,UT,SC,hlen,c0,c1,c2,c3];exact ⟨_,rfl⟩
       · rw [show Fk 4 n m dv=false by simp [Fk];omega]
         rw [<- Al];simp only [Aa,Ac,Aaw,Aau];simp only [S8,Af,SG,seval,UT,SC,hlen,c0,c1,c2,c3];exact ⟨_,rfl⟩
     · rw [show Fk 4 n m dv=false by simp [Fk];omega]
       rw [<- Al];simp only [Aa,Ac,Aaw,Aau];simp only [S8,Af,SG,seval,UT,SC,hlen,c0,c1,c2];exact ⟨_,rfl⟩
   · rw [show Fk 4 n m dv=false by simp [Fk];omega]
     rw [<- Al];simp only [Aa,Ac,Aaw,Aau];simp only [S8,Af,SG,seval,UT,SC,hlen,c0,c1];exact ⟨_,rfl⟩
 · rw [show Fk 4 n m dv=false by simp [Fk];omega]
   rw [<- Al];simp only [Aa,Ac,Aaw,Aau];simp only [S8,Af,SG,seval,UT,SC,hlen,c0];exact ⟨_,rfl⟩
theorem TJ (n m:Int) (nm:List UInt8) (vk vn:Int) (vs:List UInt8) (dv:Int) (cl at_:List UInt8) (xs:List PV):∃ bx,Ad CC 117 [.agg [.int .i64 5,.int .i64 n,.int .i64 m,.str nm,.int .i64 vk,.int .i64 vn,.str vs,.int .i64 dv,.str cl,.str at_,.sl xs]] []=some (.ret (.bool (Fk 5 n m dv)),bx):=by
 rw [Dg rfl];have hlen:True:=trivial;by_cases c0:n ≥ 1
 · by_cases c1:n<=127
   · rw [show Fk 5 n m dv=true by simp [Fk];omega]
     rw [<- Al];simp only [Aa,Ac,Aaw,Aau];simp only [S8,Af,SG,seval,UT,SC,hlen,c0,c1];exact ⟨_,rfl⟩
   · rw [show Fk 5 n m dv=false by simp [Fk];omega]
     rw [<- Al];simp only [Aa,Ac,Aaw,Aau];simp only [S8,Af,SG,seval,UT,SC,hlen,c0,c1];exact ⟨_,rfl⟩
 · rw [show Fk 5 n m dv=false by simp [Fk];omega]
   rw [<- Al];simp only [Aa,Ac,Aaw,Aau];simp only [S8,Af,SG,seval,UT,SC,hlen,c0];exact ⟨_,rfl⟩
theorem Rv (n m:Int) (nm:List UInt8) (vk vn:Int) (vs:List UInt8) (dv:Int) (cl at_:List UInt8) (xs:List PV):∃ bx,Ad CC 117 [.agg [.int .i64 15,.int .i64 n,.int .i64 m,.str nm,.int .i64 vk,.int .i64 vn,.str vs,.int .i64 dv,.str cl,.str at_,.sl xs]] []=some (.ret (.bool (Fk 15 n m dv)),bx):=by
 rw [Dg rfl];have hlen:True:=trivial;by_cases c0:n ≥ 0
 · by_cases c1:n<=4
   · rw [show Fk 15 n m dv=true by simp [Fk];omega]
     rw [<- Al];simp only [Aa,Ac,Aaw,Aau];simp only [S8,Af,SG,seval,UT,SC,hlen,c0,c1];exact ⟨_,rfl⟩
   · rw [show Fk 15 n m dv=false by simp [Fk];omega]
     rw [<- Al];simp only [Aa,Ac,Aaw,Aau];simp only [S8,Af,SG,seval,UT,SC,hlen,c0,c1];exact ⟨_,rfl⟩
 · rw [show Fk 15 n m dv=false by simp [Fk];omega]
   rw [<- Al];simp only [Aa,Ac,Aaw,Aau];simp only [S8,Af,SG,seval,UT,SC,hlen,c0];exact ⟨_,rfl⟩
theorem TL (n m:Int) (nm:List UInt8) (vk vn:Int) (vs:List UInt8) (dv:Int) (cl at_:List UInt8) (xs:List PV):∃ bx,Ad CC 117 [.agg [.int .i64 2,.int .i64 n,.int .i64 m,.str nm,.int .i64 vk,.int .i64 vn,.str vs,.int .i64 dv,.str cl,.str at_,.sl xs]] []=some (.ret (.bool (Fk 2 n m dv)),bx):=by
 rw [Dg rfl];have hlen:True:=trivial;by_cases c0:dv ≥ 1
 · by_cases c1:dv<=250
   · rw [show Fk 2 n m dv=true by simp [Fk];omega]
     rw [<- Al];simp only [Aa,Ac,Aaw,Aau];simp only [S8,Af,SG,seval,UT,SC,hlen,c0,c1];exact ⟨_,rfl⟩
   · rw [show Fk 2 n m dv=false by simp [Fk];omega]
     rw [<- Al];simp only [Aa,Ac,Aaw,Aau];simp only [S8,Af,SG,seval,UT,SC,hlen,c0,c1];exact ⟨_,rfl⟩
 · rw [show Fk 2 n m dv=false by simp [Fk];omega]
   rw [<- Al];simp only [Aa,Ac,Aaw,Aau];simp only [S8,Af,SG,seval,UT,SC,hlen,c0];exact ⟨_,rfl⟩
theorem TM (k:Int) (wc:(k == 4)=false) (hk5:(k == 5)=false) (hk15:(k == 15)=false) (ZU:(k == 2)=false) (n m:Int) (nm:List UInt8) (vk vn:Int) (vs:List UInt8) (dv:Int) (cl at_:List UInt8) (xs:List PV) (hd:Fk k n m dv=true):∃ bx,Ad CC 117 [.agg [.int .i64 k,.int .i64 n,.int .i64 m,.str nm,.int .i64 vk,.int .i64 vn,.str vs,.int .i64 dv,.str cl,.str at_,.sl xs]] []=some (.ret (.bool (Fk k n m dv)),bx):=by
 rw [Dg rfl];have hlen:True:=trivial;rw [hd];rw [<- Al];simp only [Aa,Ac,Aaw,Aau];simp only [S8,Af,SG,seval,UT,SC,hlen,wc,hk5,hk15,ZU];exact ⟨_,rfl⟩
def y8:Tr->Bool
 | .mk k n m nm v key kids=>Fk k n m key.1
theorem N9 (t:Tr):∃ bx,Ad CC 117 [Bw t] []=some (.ret (.bool (y8 t)),bx):=by
 obtain ⟨k,n,m,nm,v,key,kids⟩:=t;obtain ⟨vk,vn,vs⟩:=v;obtain ⟨dv,cl,at_⟩:=key;unfold Bw y8;by_cases c4:k=4
 · subst c4
   exact TH n m nm vk vn vs dv cl at_ (A1 kids)
 by_cases c5:k=5
 · subst c5
   exact TJ n m nm vk vn vs dv cl at_ (A1 kids)
 by_cases c15:k=15
 · subst c15
   exact Rv n m nm vk vn vs dv cl at_ (A1 kids)
 by_cases c2:k=2
 · subst c2
   exact TL n m nm vk vn vs dv cl at_ (A1 kids)
 refine TM k (by simpa using c4) (by simpa using c5) (by simpa using c15) (by simpa using c2) n m nm vk vn vs dv cl at_ (A1 kids) ?_;unfold Fk;rw [if_neg c4,if_neg c5,if_neg c15,if_neg c2]
theorem Rw (t:Tr) (bx):Ai CC (Ad CC) 117 [Bw t] bx=some (.ret (.bool (y8 t)),bx):=by
 obtain ⟨b,h⟩:=N9 t;exact Ao rfl (by simp only [AK,Bz,Bk,Ab3]) h rfl
def zP:Tr->Prop
 | .mk k n m nm v key kids=>nm.length<=100/\v.2.2.length<=100/\key.2.1.length<=100/\key.2.2.length<=100
theorem Rx (t:Tr) (hs:zP t):∃ bx,Ad CC 61 [Bw t] []=some (.ret (.int .i64 (Wi t)),bx):=by
 obtain ⟨k,n,m,nm,v,key,kids⟩:=t;have osp:=TC (.mk k n m nm v key kids);have org:=Rw (.mk k n m nm v key kids);have okd:=Wo k kids.length;have ock:=Kv v;obtain ⟨vk,vn,vs⟩:=v;obtain ⟨dv,cl,at_⟩:=key;obtain ⟨s1,s2,s3,s4⟩:=hs;simp only at s1 s2 s3 s4;have ov1:=Ci nm (by omega);have ov2:=Ci cl (by omega);have ov3:=Ci at_ (by omega);have Im:=Cv kids;unfold Bw at osp org |-;unfold PF at ock;unfold Wi;unfold y8 at org;simp only at osp org ock |-;rw [Ah (fn:=Ab0) (c:=Ab0.body.getD .skip) rfl rfl TE rfl Wh (Aax rfl)];have hlen:True:=trivial;generalize Em k kids.length=b1 at *;generalize iA (.mk k n m nm (vk,vn,vs) (dv,cl,at_) kids)=b2 at *;generalize Fk k n m dv=b3 at *;generalize B8 nm=b4 at *;generalize B8 cl=b5 at *;generalize B8 at_=b6 at *;generalize Ku (vk,vn,vs)=ck at *;generalize A1 kids=xs at *;by_cases c1:k < 1
 · rw [if_pos (by omega)]
   rw [<- Al];rw [<- AI] at osp org okd ock ov1 ov2 ov3;simp only [Aa,Ac,Ab0,Aau];simp only [S8,Af,SG,seval,UT,SC,hlen,Im,osp,org,okd,ock,ov1,ov2,ov3,c1];exact ⟨_,rfl⟩
 by_cases c2:k > 15
 · rw [if_pos (by omega)]
   rw [<- Al];rw [<- AI] at osp org okd ock ov1 ov2 ov3;simp only [Aa,Ac,Ab0,Aau];simp only [S8,Af,SG,seval,UT,SC,hlen,Im,osp,org,okd,ock,ov1,ov2,ov3,c1,c2];exact ⟨_,rfl⟩
 cases b1 with
 | false=>
  rw [if_neg (by omega),if_pos (.inl rfl)];rw [<- Al];rw [<- AI] at osp org okd ock ov1 ov2 ov3;simp only [Aa,Ac,Ab0,Aau];simp only [S8,Af,SG,seval,UT,SC,hlen,Im,osp,org,okd,ock,ov1,ov2,ov3,c1,c2];exact ⟨_,rfl⟩
 | true=>
  cases b2 with
  | true=>
   rw [if_neg (by omega),if_pos (.inr rfl)];rw [<- Al];rw [<- AI] at osp org okd ock ov1 ov2 ov3;simp only [Aa,Ac,Ab0,Aau];simp only [S8,Af,SG,seval,UT,SC,hlen,Im,osp,org,okd,ock,ov1,ov2,ov3,c1,c2];exact ⟨_,rfl⟩
  | false=>
   cases b3 with
   | false=>
    rw [if_neg (by omega),if_neg (by simp),if_pos rfl];rw [<- Al];rw [<- AI] at osp org okd ock ov1 ov2 ov3;simp only [Aa,Ac,Ab0,Aau];simp only [S8,Af,SG,seval,UT,SC,hlen,Im,osp,org,okd,ock,ov1,ov2,ov3,c1,c2];exact ⟨_,rfl⟩
   | true=>
    by_cases d3:k=3
    · subst d3
      cases b4 with
      | false=>
       rw [if_neg (by omega),if_neg (by simp),if_neg (by simp),if_pos rfl,if_neg (by simp)];rw [<- Al];rw [<- AI] at osp org okd ock ov1 ov2 ov3;simp only [Aa,Ac,Ab0,Aau];simp only [S8,Af,SG,seval,UT,SC,hlen,Im,osp,org,okd,ock,ov1,ov2,ov3,c1,c2];exact ⟨_,rfl⟩
      | true=>
       rw [if_neg (by omega),if_neg (by simp),if_neg (by simp),if_pos rfl,if_pos rfl];rw [<- Al];rw [<- AI] at osp org okd ock ov1 ov2 ov3;simp only [Aa,Ac,Ab0,Aau];simp only [S8,Af,SG,seval,UT,SC,hlen,Im,osp,org,okd,ock,ov1,ov2,ov3,c1,c2];exact ⟨_,rfl⟩
    · by_cases d2:k=2
      · subst d2
        cases b5 with
        | false=>
         rw [if_neg (by omega),if_neg (by simp),if_neg (by simp),if_neg (by omega),if_pos rfl,if_neg (by simp)];rw [<- Al];rw [<- AI] at osp org okd ock ov1 ov2 ov3;simp only [Aa,Ac,Ab0,Aau];simp only [S8,Af,SG,seval,UT,SC,hlen,Im,osp,org,okd,ock,ov1,ov2,ov3,c1,c2];exact ⟨_,rfl⟩
        | true=>
         cases b6 with
         | false=>
          rw [if_neg (by omega),if_neg (by simp),if_neg (by simp),if_neg (by omega),if_pos rfl,if_neg (by simp)];rw [<- Al];rw [<- AI] at osp org okd ock ov1 ov2 ov3;simp only [Aa,Ac,Ab0,Aau];simp only [S8,Af,SG,seval,UT,SC,hlen,Im,osp,org,okd,ock,ov1,ov2,ov3,c1,c2];exact ⟨_,rfl⟩
         | true=>
          rw [if_neg (by omega),if_neg (by simp),if_neg (by simp),if_neg (by omega),if_pos rfl,if_pos (by simp)];rw [<- Al];rw [<- AI] at osp org okd ock ov1 ov2 ov3;simp only [Aa,Ac,Ab0,Aau];simp only [S8,Af,SG,seval,UT,SC,hlen,Im,osp,org,okd,ock,ov1,ov2,ov3,c1,c2];exact ⟨_,rfl⟩
      · by_cases d1:k=1
        · subst d1
          by_cases e1:ck=0
          · subst e1
            by_cases e2:vk=0
            · subst e2
              rw [if_neg (by omega),if_neg (by simp),if_neg (by simp),if_neg (by omega),if_neg (by omega),if_pos rfl,if_neg (by simp),if_pos rfl];rw [<- Al];rw [<- AI] at osp org okd ock ov1 ov2 ov3;simp only [Aa,Ac,Ab0,Aau];simp only [S8,Af,SG,seval,UT,SC,hlen,Im,osp,org,okd,ock,ov1,ov2,ov3,c1,c2];exact ⟨_,rfl⟩
            · have e2p:(vk == 0)=false:=by simpa using e2
              rw [if_neg (by omega),if_neg (by simp),if_neg (by simp),if_neg (by omega),if_neg (by omega),if_pos rfl,if_neg (by simp),if_neg e2];rw [<- Al];rw [<- AI] at osp org okd ock ov1 ov2 ov3;simp only [Aa,Ac,Ab0,Aau];simp only [S8,Af,SG,seval,UT,SC,hlen,Im,osp,org,okd,ock,ov1,ov2,ov3,c1,c2,e2p];exact ⟨_,rfl⟩
          · have e1p:(ck != 0)=true:=by simpa using e1
            rw [if_neg (by omega),if_neg (by simp),if_neg (by simp),if_neg (by omega),if_neg (by omega),if_pos rfl,if_pos e1];rw [<- Al];rw [<- AI] at osp org okd ock ov1 ov2 ov3;simp only [Aa,Ac,Ab0,Aau];simp only [S8,Af,SG,seval,UT,SC,hlen,Im,osp,org,okd,ock,ov1,ov2,ov3,c1,c2,e1p];exact ⟨_,rfl⟩
        · have d1p:(k == 1)=false:=by simpa using d1
          have d2p:(k == 2)=false:=by simpa using d2
          have d3p:(k == 3)=false:=by simpa using d3
          rw [if_neg (by omega),if_neg (by simp),if_neg (by simp),if_neg d3,if_neg d2,if_neg d1];rw [<- Al];rw [<- AI] at osp org okd ock ov1 ov2 ov3;simp only [Aa,Ac,Ab0,Aau];simp only [S8,Af,SG,seval,UT,SC,hlen,Im,osp,org,okd,ock,ov1,ov2,ov3,c1,c2,d1p,d2p,d3p];exact ⟨_,rfl⟩
theorem Wp (t:Tr) (hs:zP t) (bx):Ai CC (Ad CC) 61 [Bw t] bx=some (.ret (.int .i64 (Wi t)),bx):=by
 obtain ⟨b,h⟩:=Rx t hs;exact Ao rfl (by simp only [AK,Bz,Bk,Ab3]) h rfl
theorem TN:Be CC Aba (Aba.body.getD .skip)=true:=by kernel_rfl
theorem Ry:CC.P.funcs[31]?=some Aba:=by kernel_rfl
theorem Wq:Be CC Ab9 (Ab9.body.getD .skip)=true:=by kernel_rfl
theorem TO:CC.P.funcs[59]?=some Ab9:=by kernel_rfl
theorem PL:Be CC Ab6 (Ab6.body.getD .skip)=true:=by kernel_rfl
theorem N':CC.P.funcs[60]?=some Ab6:=by kernel_rfl
theorem Rz:Be CC Ab1 (Ab1.body.getD .skip)=true:=by kernel_rfl
theorem PM:CC.P.funcs[114]?=some Ab1:=by kernel_rfl
theorem HL {x:List PV} {b:List PBox} (h:x.length.ble Ab1.ntmps=true):Ad CC 114 x b=CD CC Ab1.results.toList (Cf CC (Ab1.body.getD .skip) ⟨x,b⟩):=Ah (fn:=Ab1) (c:=Ab1.body.getD .skip) rfl rfl PM rfl Rz (Aax h)
mutual
def ZW:Tr->Int->Int->Int×Int
 | .mk k n m nm v key kids,lv,b=>if 24 < lv then (b,22) else if 200<=b then (b,3) else if Wi (.mk k n m nm v key kids)≠0 then (b,Wi (.mk k n m nm v key kids)) else RA kids (lv+1) (b+1)
def RA:List Tr->Int->Int->Int×Int
 | [],_,b=>(b,0)
 | t :: r,lv,b=>if (ZW t lv b).2≠0 then ZW t lv b else RA r lv (ZW t lv b).1
end
mutual
def FM:Tr->Prop
 | .mk k n m nm v key kids=>(nm.length<=100/\v.2.2.length<=100/\key.2.1.length<=100/\key.2.2.length<=100/\kids.length<=12)/\DC kids
def DC:List Tr->Prop
 | []=>True
 | t :: r=>FM t/\DC r
end
mutual
theorem Vj (t:Tr) (left levels:Int) (h:0<=Tn t left levels):FM t:=by
 match t with
 | .mk k n m nm v key kids=>
  unfold Tn at h;unfold FM;split at h
  · omega
  · rename_i hc
    exact ⟨by omega,jF kids _ _ h⟩
theorem jF (l:List Tr) (left levels:Int) (h:0<=Iv l left levels):DC l:=by
 match l with
 | []=>unfold DC;trivial
 | t :: r=>
  unfold Iv at h;unfold DC;split at h
  · omega
  · exact ⟨Vj t left levels (by omega),jF r _ _ h⟩
end
theorem sA {t:Tr} (h:FM t):zP t:=by
 obtain ⟨k,n,m,nm,v,key,kids⟩:=t;unfold FM at h;exact ⟨h.1.1,h.1.2.1,h.1.2.2.1,h.1.2.2.2.1⟩
theorem wV:(∃ a b v,CC.P.underlying 99=some (.func a b v))/\tAgg CC 99=false/\tSize CC 99=some 1/\zeroCells CC 99=some [.nilf]:=
 ⟨⟨(match Abf.underlying 99 with | some (.func a _ _)=>a | _=>#[]),(match Abf.underlying 99 with | some (.func _ b _)=>b | _=>#[]),(match Abf.underlying 99 with | some (.func _ _ v)=>v | _=>false),by kernel_rfl⟩,by kernel_rfl,by kernel_rfl,by kernel_rfl⟩
def QE (b:PBox):Prop:=∃ t cs,b=.cells t cs/\Ak cs=true
def Vb:PBox:=.cells 99 [.fn 60 [] [.bp 2 0,.bp 1 0]]
def Sb:PBox:=.cells 99 [.fn 114 [] [.bp 4 0,.bp 5 0]]
def B6 (b0 b3:PBox) (f c:Int) (r:List PBox):List PBox:=b0 :: .cells 35 [.int .i64 f] :: .cells 3 [.int .i64 c] :: b3 :: Vb :: Sb :: r
section
variable (b0 b3:PBox) (f c:Int) (r:List PBox)
theorem Hf:(B6 b0 b3 f c r).length=r.length+6:=rfl
theorem TP:(B6 b0 b3 f c r)[1]?=some (.cells 35 [.int .i64 f]):=rfl
theorem TQ:(B6 b0 b3 f c r)[2]?=some (.cells 3 [.int .i64 c]):=rfl
theorem TR:(B6 b0 b3 f c r)[4]?=some Vb:=rfl
theorem TS:(B6 b0 b3 f c r)[5]?=some Sb:=rfl
theorem HZ (x:PBox):B6 b0 b3 f c r++[x]=B6 b0 b3 f c (r++[x]):=rfl
theorem LN (f':Int):(B6 b0 b3 f c r).set 1 (.cells 35 [.int .i64 f'])=B6 b0 b3 f' c r:=rfl
theorem LO (c':Int):(B6 b0 b3 f c r).set 2 (.cells 3 [.int .i64 c'])=B6 b0 b3 f c' r:=rfl
theorem Gf (x:PBox):(B6 b0 b3 f c (r++[x]))[r.length+6]?=some x:=by
 show (r++[x])[r.length]?=some x;rw [Aav]
theorem LP (x y:PBox):(B6 b0 b3 f c (r++[x])).set (r.length+6) y=B6 b0 b3 f c (r++[y]):=by
 show b0 :: .cells 35 [.int .i64 f] :: .cells 3 [.int .i64 c] :: b3 :: Vb :: Sb :: (r++[x]).set r.length y=_;rw [List.set_append_right _ _ (Nat.le_refl _),Nat.sub_self];rfl
end
mutual
theorem RC (n:Nat) (v:PV) (h:v.pure=true):v.under n=true:=by
 match v with
 | .top=>simp [PV.pure] at h
 | .bp _ _=>simp [PV.pure] at h
 | .sl xs=>unfold PV.pure at h;unfold PV.under;exact Cx n xs h
 | .osl _ xs=>unfold PV.pure at h;unfold PV.under;exact Cx n xs h
 | .ip xs=>unfold PV.pure at h;unfold PV.under;exact Cx n xs h
 | .agg xs=>unfold PV.pure at h;unfold PV.under;exact Cx n xs h
 | .tup xs=>unfold PV.pure at h;unfold PV.under;exact Cx n xs h
 | .fn _ a b=>
  unfold PV.pure at h;unfold PV.under;rw [Ab7] at h |-;exact ⟨Cx n a h.1,Cx n b h.2⟩
 | .iface _ v=>unfold PV.pure at h;unfold PV.under;exact RC n v h
 | .bool _=>simp [PV.under]
 | .int _ _=>simp [PV.under]
 | .str _=>simp [PV.under]
 | .nils=>simp [PV.under]
 | .nilp=>simp [PV.under]
 | .nilf=>simp [PV.under]
 | .nili=>simp [PV.under]
theorem Cx (n:Nat) (l:List PV) (h:Ak l=true):Ar n l=true:=by
 match l with
 | []=>simp [Ar]
 | v :: r=>
  unfold Ak at h;unfold Ar;rw [Ab7] at h |-;exact ⟨RC n v h.1,Cx n r h.2⟩
end
theorem QE.under {b:PBox} (h:QE b) (n:Nat):b.under n=true:=by
 obtain ⟨t,cs,rfl,hp⟩:=h;exact Cx n cs hp
theorem QE.tr (t:Tr):QE (.cells 29 (Bw t).cells):=by
 refine ⟨_,_,rfl,?_⟩;have h:=Bz t;obtain ⟨k,n,m,nm,v,key,kids⟩:=t;unfold Bw at h |-;unfold PV.pure at h;exact h
theorem jG {b0 b3:PBox} {f c:Int} {r ex:List PBox} (h0:QE b0) (h3:QE b3) (hr:∀ x ∈ r,QE x) (b:Bool):Eu (r.length+6) (.ret (.bool b)) (B6 b0 b3 f c (r++ex))=B6 b0 b3 f c r:=by
 have ht:(B6 b0 b3 f c (r++ex)).take (r.length+6)=B6 b0 b3 f c r:=by
  show List.take (r.length+6) (b0 :: .cells 35 [.int .i64 f] :: .cells 3 [.int .i64 c] :: b3 :: Vb :: Sb :: (r++ex))=_;simp only [List.take_succ_cons,List.take_left'];rfl
 unfold Eu;rw [ht,if_pos];rw [Ab7];refine ⟨by simp [CR.under,PV.under],?_⟩;show (b0 :: .cells 35 [.int .i64 f] :: .cells 3 [.int .i64 c] :: b3 :: Vb :: Sb :: r).all _=true;rw [List.all_eq_true];intro x hx;rcases Ab2.1 hx with rfl | hx
 · exact h0.under _
 rcases Ab2.1 hx with rfl | hx
 · rfl
 rcases Ab2.1 hx with rfl | hx
 · rfl
 rcases Ab2.1 hx with rfl | hx
 · exact h3.under _
 rcases Ab2.1 hx with rfl | hx
 · simp [Vb,PBox.under,Ar,PV.under]
 rcases Ab2.1 hx with rfl | hx
 · simp [Sb,PBox.under,Ar,PV.under]
 exact (hr x hx).under _
theorem RD {f:FuncId} {args:List PV} {b0 b3:PBox} {fo c fo' c':Int} {r ex:List PBox} {b:Bool} (hp:Ak args=false) (h0:QE b0) (h3:QE b3) (hr:∀ x ∈ r,QE x)
 (h:Ad CC f args (B6 b0 b3 fo c r)=some (.ret (.bool b),B6 b0 b3 fo' c' (r++ex))):Ai CC (Ad CC) f args (B6 b0 b3 fo c r)=some (.ret (.bool b),B6 b0 b3 fo' c' r):=by
 unfold Ai;rw [if_pos (by rw [hp];simp),h];simp only [Hf];rw [jG h0 h3 hr]
def jH (t:Tr) (lv c:Int):Int:=if 24 < lv then 22 else if 200<=c then 3 else Wi t
theorem aY (t:Tr) (hs:FM t) (b0 b3:PBox) (f c lv:Int) (r:List PBox) (hc:0<=c) (rX:c<=200) :
 Ad CC 60 [Bw t,.int .i64 lv,.bp 2 0,.bp 1 0] (B6 b0 b3 f c r)=some (.ret (.bool (jH t lv c == 0)),B6 b0 b3 (jH t lv c) (c+1) (r++[.cells 29 (Bw t).cells])):=by
 rw [Ah (fn:=Ab6) (c:=Ab6.body.getD .skip) rfl rfl N' rfl PL (Aax rfl)];have qL:=Wp t (sA hs);unfold jH;generalize Wi t=nd at *;obtain ⟨k,n,m,nm,v,key,kids⟩:=t;unfold Bw at qL |-;have hw:=wrap_i64 (n:=c+1) ⟨by omega,by omega⟩;have hlen:True:=trivial;generalize A1 kids=xs at *;by_cases c1:lv > 24
 · rw [if_pos c1]
   rw [<- Al];simp only [Aa,Ac,Ab6,Aau];simp only [S9,Af,seval,hlen,Hf,TP,TQ,TR,TS,HZ,LN,LO,Gf,LP,Aw,hw,c1]
 · rw [if_neg c1]
   by_cases c2:200<=c
   · have c2':c+1 > 200:=by omega
     rw [if_pos c2];rw [<- Al];simp only [Aa,Ac,Ab6,Aau];simp only [S9,Af,seval,hlen,Hf,TP,TQ,TR,TS,HZ,LN,LO,Gf,LP,Aw,hw,c1,c2']
   · have c2':¬ c+1 > 200:=by omega
     rw [if_neg c2];rw [<- Al];rw [<- AI] at qL;simp only [Aa,Ac,Ab6,Aau];simp only [S9,Af,seval,hlen,Hf,TP,TQ,TR,TS,HZ,LN,LO,Gf,LP,Aw,hw,c1,c2',qL]
theorem jI (t:Tr) (hs:FM t) {b0 b3:PBox} (f c lv:Int) {r:List PBox} (h0:QE b0) (h3:QE b3) (hr:∀ x ∈ r,QE x) (hc:0<=c) (rX:c<=200) :
 Ai CC (Ad CC) 60 [Bw t,.int .i64 lv,.bp 2 0,.bp 1 0] (B6 b0 b3 f c r)=some (.ret (.bool (jH t lv c == 0)),B6 b0 b3 (jH t lv c) (c+1) r):=
 RD (by simp only [AK,Bz] <;> rfl) h0 h3 hr (aY t hs b0 b3 f c lv r hc rX)
def vN (t:Tr):Prop:=∀ (b0 b3:PBox) (lv f c:Int) (r:List PBox),QE b0->QE b3->(∀ x ∈ r,QE x)->0<=c->c<=200->1<=lv->lv<=25 ->
 ∃ c' ex,Ad CC 114 [Bw t,.int .i64 lv,.bp 4 0,.bp 5 0] (B6 b0 b3 f c r)=some (.ret (.bool ((ZW t lv c).2 == 0)),B6 b0 b3 (ZW t lv c).2 c' (r++ex))/\((ZW t lv c).2=0->c'=(ZW t lv c).1/\0<=c'/\c'<=200)
def sB (b0 b3:PBox) (r:List PBox) (w:Int×Int) (res:Option (Ex×St)):Prop:=∃ e' c' ex,(w.2=0/\c'=w.1/\0<=c'/\c'<=200/\res=some (.exit 0,⟨e',B6 b0 b3 0 c' (r++ex)⟩))\/(w.2≠0/\res=some (.ret,⟨e',B6 b0 b3 w.2 c' (r++ex)⟩)/\getT e' 6=.bool false)
theorem sB.app {b0 b3:PBox} {r:List PBox} {x:PBox} {w:Int×Int} {res:Option (Ex×St)} (h:sB b0 b3 (r++[x]) w res):sB b0 b3 r w res:=by
 obtain ⟨e',c',ex,h⟩:=h;refine ⟨e',c',[x]++ex,?_⟩;rw [<- List.append_assoc];exact h
theorem fQ (L:Code) (hL:L=Aa Ab1 [1,1,0,1,0]) (b0 b3:PBox) (h0:QE b0) (h3:QE b3) (lv:Int) (uY:1<=lv) (hlv':lv<=24) (l:List Tr) (hl:l.length<=12) (hk:∀ t ∈ l,vN t):∀ (k i:Nat) (e:List PV) (r:List PBox) (c:Int),i+k=l.length->(∀ x ∈ r,QE x)->0<=c->c<=200 ->
 getT e 1=.int .i64 lv->getT e 3=.bp 5 0->getT e 15=.sl (A1 l)->getT e 16=.int .i64 l.length->getT e 17=.int .i64 i->sB b0 b3 r (RA (l.drop i) (lv+1) c) (Cf CC L ⟨e,B6 b0 b3 0 c r⟩):=by
 intro k
 induction k with
 | zero=>
  intro i e r c DK hr hc rX e1 e3 e15 e16 e17;rw [AX (Aa Ab1 [1,1,0,1,0,0]) hL];have hi:¬ ((i:Int) < (l.length:Int)):=by omega
  rw [Abd (by omega)];unfold RA;obtain ⟨⟨fa,fb,fv,nH⟩,nI,nJ,iH⟩:=wV;have hlen:True:=trivial;generalize A1 l=xs at *;rw [<- Al];simp only [Aa,Ac,Ab1,Aau];simp only [S9,Af,seval,hlen,Hf,TP,TQ,TR,TS,HZ,LN,LO,Gf,LP,Aw,e1,e3,e15,e16,e17,hi];exact ⟨_,c,[],.inl ⟨rfl,rfl,hc,rX,by rw [List.append_nil]⟩⟩
 | succ k ih=>
  intro i e r c DK hr hc rX e1 e3 e15 e16 e17;rw [AX (Aa Ab1 [1,1,0,1,0,0]) hL];have hi:((i:Int) < (l.length:Int)):=by omega
  have C4:¬ ((i:Int) < 0):=by omega
  have G1:l.drop i=(l[i]'(by omega)) :: l.drop (i+1):=Abb (by omega);have hx:l[i]?=some (l[i]'(by omega)):=by simp
  have EC:vN (l[i]'(by omega)):=hk _ (Abg _);generalize l[i]'(by omega)=x at *;have Gz:=MS hx;have Im:=Cv l;have I5:=wrap_i64 (n:=(i:Int)+1) ⟨by omega,by omega⟩;have vo:=wrap_i64 (n:=lv+1) ⟨by omega,by omega⟩
  have VR:∀ y ∈ r++[PBox.cells 29 (Bw x).cells],QE y:=by
   intro y hy;rcases Abh.1 hy with h | h
   · exact hr y h
   · simp at h;rw [h];exact QE.tr x
  have key:=fun e c=>ih (i+1) e (r++[PBox.cells 29 (Bw x).cells]) c (by omega) VR;have cast1:((i+1:Nat):Int)=(i:Int)+1:=by omega
  rw [cast1] at key;rw [G1];unfold RA;obtain ⟨c',ex,Bo,hcnt⟩:=EC b0 b3 (lv+1) 0 c (r++[PBox.cells 29 (Bw x).cells]) h0 h3 VR hc rX (by omega) (by omega);have Bb:=RD (by simp only [AK,Bz] <;> rfl) h0 h3 VR Bo;clear Bo;generalize ZW x (lv+1) c=w at *;obtain ⟨w1,w2⟩:=w;simp only at Bb hcnt |-;have nG:=Bz x;obtain ⟨⟨fa,fb,fv,nH⟩,nI,nJ,iH⟩:=wV;have hlen:True:=trivial;obtain ⟨xk,xn,xm,xnm,xv,xkey,xkids⟩:=x;unfold Bw at Gz Bb nG key;generalize A1 xkids=ys at *;generalize A1 l=xs at *;simp only [SA] at Bb key;by_cases c1:w2=0
  · subst c1
    obtain ⟨rfl,g0,g1⟩:=hcnt rfl;rw [if_neg (by simp)];simp only [BEq.rfl] at Bb;apply sB.app;rw [<- Al];rw [<- Al] at key;rw [<- AI] at Bb;simp only [Aa,Ac,Ab1,Aau];simp only [S9,Af,seval,hlen,Hf,TP,TQ,TR,TS,HZ,LN,LO,Gf,LP,Aw,e1,e3,e15,e16,e17,hi,C4,Gz,I5,vo,Sb,Bb,HY,nH,nI,nJ,iH];refine key _ _ g0 g1 ?_ ?_ ?_ ?_ ?_
    all_goals simp only [S7,Af,seval,e1,e3,e15,e16,e17]
  · rw [if_pos c1]
    have c1p:(w2 == 0)=false:=by simpa using c1
    rw [c1p] at Bb;rw [<- Al];rw [<- AI] at Bb;simp only [Aa,Ac,Ab1,Aau];simp only [S9,Af,seval,hlen,Hf,TP,TQ,TR,TS,HZ,LN,LO,Gf,LP,Aw,e1,e3,e15,e16,e17,hi,C4,Gz,I5,vo,Sb,Bb,HY,nH,nI,nJ,iH];exact ⟨_,_,_,.inr ⟨c1,rfl,by simp only [S7,Af,seval]⟩⟩
theorem fR (t:Tr) (hs:FM t) (kids:List Tr) (rY:(match t with | .mk _ _ _ _ _ _ l=>l)=kids) (hk:∀ t ∈ kids,vN t):vN t:=by
 intro b0 b3 lv f c r h0 h3 hr hc rX uY hlv'
 have VR:∀ y ∈ r++[PBox.cells 29 (Bw t).cells],QE y:=by
  intro y hy;rcases Abh.1 hy with h | h
  · exact hr y h
  · simp at h;rw [h];exact QE.tr t
 have nK:=jI t hs f c lv h0 h3 VR hc rX
 have qK:kids.length<=12:=by
  obtain ⟨k,n,m,nm,v,key,l⟩:=t;simp only at rY;subst rY;unfold FM at hs;exact hs.1.2.2.2.2
 have hwk:ZW t lv c=if jH t lv c=0 then RA kids (lv+1) (c+1) else (c,jH t lv c):=by
  obtain ⟨k,n,m,nm,v,key,l⟩:=t;simp only at rY;subst rY;unfold ZW jH;by_cases d1:24 < lv
  · rw [if_pos d1,if_pos d1,if_neg (by decide)]
  · rw [if_neg d1,if_neg d1]
    by_cases d2:200<=c
    · rw [if_pos d2,if_pos d2,if_neg (by decide)]
    · rw [if_neg d2,if_neg d2]
      by_cases d3:Wi (.mk k n m nm v key l)=0
      · rw [if_neg (fun h=>h d3),if_pos d3]
      · rw [if_pos d3,if_neg d3]
 have Im:=Cv kids
 have hlv24:jH t lv c=0->lv<=24/\c < 200:=by
  intro h;unfold jH at h;split at h
  · omega
  · split at h
    · omega
    · omega
 rw [hwk];generalize jH t lv c=er at *;obtain ⟨⟨fa,fb,fv,nH⟩,nI,nJ,iH⟩:=wV;have hlen:True:=trivial;by_cases c1:er=0
 · subst c1
   obtain ⟨g1,g2⟩:=hlv24 rfl;rw [if_pos rfl];have key:=fun L hL e r hr e1 e3 e15 e16 e17=>fQ L hL b0 b3 h0 h3 lv uY g1 kids qK hk kids.length 0 e r (c+1) (by omega) hr (by omega) (by omega) e1 e3 e15 e16 e17;rw [Abi] at key;generalize RA kids (lv+1) (c+1)=w at *;simp only [BEq.rfl] at nK;rw [HL rfl];obtain ⟨xk,xn,xm,xnm,xv,xkey,xkids⟩:=t;simp only at rY;subst rY;unfold Bw at nK VR |-;generalize A1 xkids=xs at *;simp only [SA] at nK VR;rw [<- Al];rw [<- Al] at key;rw [<- AI] at nK;simp only [Aa,Ac,Ab1,Aau];simp only [S9,Af,seval,hlen,Hf,TP,TQ,TR,TS,HZ,LN,LO,Gf,LP,Aw,nK,Vb,Im,nH,nI,nJ,iH];generalize hE:GM (Code.loop _) _=z
   have hP:sB b0 b3 r w z:=by
    rw [<- hE];apply sB.app;refine key _ rfl _ _ VR ?_ ?_ ?_ ?_ ?_
    all_goals first | (simp only [S7,Af,seval];done) | (simp only [S7,Af,seval] <;> rfl)
   obtain ⟨e',c',ex,⟨g3,g4,g5,g6,he⟩ | ⟨g3,he,g4⟩⟩:=hP
   · subst he
     rw [g3];simp only [S8,Af,seval];exact ⟨c',ex,rfl,fun _=>⟨g4,g5,g6⟩⟩
   · subst he
     have g3p:(w.2 == 0)=false:=by simpa using g3
     rw [g3p];simp only [S8,Af,seval,g4];exact ⟨c',ex,rfl,fun h=>absurd h g3⟩
 · have c1p:(er == 0)=false:=by simpa using c1
   rw [if_neg c1];simp only [c1p] at nK |-;rw [HL rfl];obtain ⟨xk,xn,xm,xnm,xv,xkey,xkids⟩:=t;unfold Bw at nK |-;generalize A1 xkids=xs at *;simp only [SA] at nK;rw [<- Al];rw [<- AI] at nK;simp only [Aa,Ac,Ab1,Aau];simp only [S9,Af,seval,hlen,Hf,TP,TQ,TR,TS,HZ,LN,LO,Gf,LP,Aw,nK,Vb,nH,nI,nJ,iH];exact ⟨_,_,rfl,fun h=>absurd h c1⟩
mutual
theorem Vk (t:Tr) (hs:FM t):vN t:=by
 match t,hs with
 | .mk k n m nm v key kids,hs=>
  have h2:DC kids:=by unfold FM at hs;exact hs.2
  exact fR _ hs kids rfl (RE kids h2)
theorem RE (l:List Tr) (hs:DC l):∀ t ∈ l,vN t:=by
 match l,hs with
 | [],_=>intro t ht;simp at ht
 | x :: r,hs=>
  intro t ht;unfold DC at hs;rcases Ab2.1 ht with h | h
  · rw [h];exact Vk x hs.1
  · exact RE r hs.2 t h
end
def Mz (t:Tr):Int:=(ZW t 1 0).2
theorem fS (t:Tr) (hs:FM t) (cs:List PV) (JQ:Ak cs=true):∃ bx,Ad CC 59 [Bw t,.fn 60 [] [.bp 2 0,.bp 1 0]] [.cells 29 cs,.cells 35 [.int .i64 0],.cells 3 [.int .i64 0]]=some (.ret (.bool (Mz t == 0)),bx) /\
 bx.take 3=[.cells 29 cs,.cells 35 [.int .i64 (Mz t)],bx.getD 2 default]/\∃ c',bx[2]?=some (.cells 3 [.int .i64 c']):=by
 have hb3:=QE.tr t;obtain ⟨c',ex,Bo,_⟩:=Vk t hs (.cells 29 cs) (.cells 29 (Bw t).cells) 1 0 0 [] ⟨_,_,rfl,JQ⟩ hb3 (by simp) (by decide) (by decide) (by decide) (by decide);have Bb:=RD (by simp only [AK,Bz] <;> rfl) ⟨_,_,rfl,JQ⟩ hb3 (by simp) Bo;clear Bo;unfold Mz;generalize ZW t 1 0=w at *;obtain ⟨⟨fa,fb,fv,nH⟩,nI,nJ,iH⟩:=wV;have hlen:True:=trivial;rw [Ah (fn:=Ab9) (c:=Ab9.body.getD .skip) rfl rfl TO rfl Wq (Aax rfl)];obtain ⟨xk,xn,xm,xnm,xv,xkey,xkids⟩:=t;unfold Bw at Bb |-;generalize A1 xkids=xs at *;simp only [SA] at Bb;unfold B6 Vb Sb at Bb;rw [<- Al];rw [<- AI] at Bb;simp only [Aa,Ac,Ab9,Aau];simp only [S9,Af,seval,hlen,Hf,TP,TQ,TR,TS,HZ,LN,LO,Gf,LP,Aw,Bb,nH,nI,nJ,iH,Ab4,Ab5];exact ⟨_,rfl,rfl,c',rfl⟩
theorem ZE:zeroCells CC 35=some [.int .i64 0]/\zeroCells CC 3=some [.int .i64 0]:=⟨by kernel_rfl,by kernel_rfl⟩
theorem oi (t:Tr) (hs:FM t) (cs:List PV) (JQ:Ak cs=true):∃ c':Int,Ai CC (Ad CC) 59 [Bw t,.fn 60 [] [.bp 2 0,.bp 1 0]] [.cells 29 cs,.cells 35 [.int .i64 0],.cells 3 [.int .i64 0]] =
 some (.ret (.bool (Mz t == 0)),[.cells 29 cs,.cells 35 [.int .i64 (Mz t)],.cells 3 [.int .i64 c']]):=by
 obtain ⟨bx,h1,h2,c',h3⟩:=fS t hs cs JQ;refine ⟨c',?_⟩;have h4:bx.getD 2 default=.cells 3 [.int .i64 c']:=by rw [List.getD_eq_getElem?_getD,h3];rfl
 rw [h4] at h2;unfold Ai;rw [if_pos (by simp only [AK,Bz,jA] <;> rfl),h1];simp only;unfold Eu;simp only [List.length_cons,List.length_nil];rw [h2,if_pos];rw [Ab7];refine ⟨by simp [CR.under,PV.under],?_⟩;simp only [List.all_cons,List.all_nil,Abc,PBox.under,Cx _ _ JQ];simp [Ar,PV.under]
theorem PN (t:Tr) (hs:FM t):∃ bx,Ad CC 31 [Bw t] []=some (.ret (.int .i64 (Mz t)),bx):=by
 have hp:=Bz t
 have hw:=oi t hs (Bw t).cells (by
  obtain ⟨k,n,m,nm,v,key,kids⟩:=t;unfold Bw at hp |-;unfold PV.pure at hp;exact hp)
 obtain ⟨c',hw⟩:=hw;generalize Mz t=er at *;obtain ⟨⟨fa,fb,fv,nH⟩,nI,nJ,iH⟩:=wV;obtain ⟨z1,z2⟩:=ZE;have hlen:True:=trivial;rw [Ah (fn:=Aba) (c:=Aba.body.getD .skip) rfl rfl Ry rfl TN (Aax rfl)];obtain ⟨xk,xn,xm,xnm,xv,xkey,xkids⟩:=t;unfold Bw at hw |-;generalize A1 xkids=xs at *;simp only [SA] at hw;rw [<- Al];rw [<- AI] at hw;simp only [Aa,Ac,Aba,Aau];simp only [S9,Af,seval,hlen,Hf,TP,TQ,TR,TS,HZ,LN,LO,Gf,LP,Aw,hw,nH,nI,nJ,iH,z1,z2,Ab4,Ab5];exact ⟨_,rfl⟩
theorem H0 (t:Tr) (hs:FM t) (bx):Ai CC (Ad CC) 31 [Bw t] bx=some (.ret (.int .i64 (Mz t)),bx):=by
 obtain ⟨b,h⟩:=PN t hs;exact Ao rfl (by simp only [AK,Bz,Bk,Ab3]) h rfl
set_option maxHeartbeats 4000000
end Go.HH
