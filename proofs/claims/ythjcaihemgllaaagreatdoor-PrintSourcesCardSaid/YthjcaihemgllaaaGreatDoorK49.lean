/-
  What the law needs, packed: SC SD SE SF SG SI.
-/
import Derived.Test.YthjcaihemgllaaaGreatDoorK48
open List renaming length_cons->Aau,length_append->Aav,length_eq_zero_iff->Aaw,length_singleton->Ab3,length_map->Ab6,mem_cons->Ab7,map_cons->Ab8,all_cons->Ab9,map_map->Aba,append_nil->Abh
open Go.Lib renaming itoa->Aax,decDigits->Ab2
open Bool renaming and_eq_true->Aay,and_eq_false_iff->Abb,or_eq_false_iff->Abd,not_eq_false'->Abe,or_eq_true->Abi
open Nat renaming le_refl->Aaz,zero_le->Ab5,lt_succ_self->Abg,pow_succ->Abj,lt_trans->Abk
open Int renaming ofNat_inj->Ab0
open UInt8 renaming ofNat->Ab1,toNat_lt->Abf
open Prod renaming fst->Ab4,snd->Abc
namespace Go.HH
open Go Go.Proofs
set_option maxRecDepth 100000
set_option linter.unusedSimpArgs false
set_option linter.unusedVariables false
theorem A2 {α β:Type} (a:α) (i:Nat) (f:α->Nat->PR β):(PR.ok a i).bind f=f a i:=rfl
theorem GH {α:Type} {e:α} {i j:Nat} (h:i=j):PR.ok e i=.ok e j:=by rw [h]
section
variable {L:List Tk} {i:Nat} {r:List KT}
theorem CH {k:Nat} {w:List UInt8} (h:Dn L i ((k,w) :: r)):Bt L k w i=.ok () (i+1):=by
 unfold Bt;rw [CT h];rfl
theorem OZ {w:List UInt8} {lo hi:Nat} (h:Dn L i ((2,w) :: r)) (h1:lo<=amtN w 0) (h2:amtN w 0<=hi):Hu L lo hi i=.ok (amtN w 0) (i+1):=by
 have e1:=EP h;have e2:=Ms h;unfold Hu;rw [e1,e2];show (if (2:Nat)=2 then (if amtN w 0 < lo\/hi < amtN w 0 then PR.bad (atT L i) 2 else .ok (amtN w 0) (i+1)) else _)=_;rw [if_pos rfl,if_neg (by omega)]
theorem mb {w:List UInt8} {hi:Nat} (h:Dn L i ((2,w) :: r)) (h1:w.length=2) (h2:amtN w 0<=hi):P8 L hi i=.ok (amtN w 0) (i+1):=by
 have e2:(tokAt L i).2.1=w:=Ms h;unfold P8;rw [e2,if_neg (fun x=>x.2 h1),OZ h (Ab5 _) h2]
theorem GQ {w:List UInt8} (h:Dn L i ((1,w) :: r)) (hv:B8 w=true):DF L i=.ok w (i+1):=by
 have e1:=EP h;have e2:=Ms h;unfold DF;rw [e1,e2];show (if (1:Nat)=1 then (if B8 w=true then PR.ok w (i+1) else _) else _)=_;rw [if_pos rfl,if_pos hv]
theorem Hr {x:KT} (h:Dn L i (x :: r)):Cz L i=(x.1 == 2 && !((JB r).1 == 4 && (JB r).2 == [46])):=by
 unfold Cz;rw [EP h,Gb (A9 h)];rfl
end
def JP (t:KT) (k:Nat):List (List UInt8)->Nat->Option Nat
 | [],_=>none
 | w :: r,n=>if t.1 == k && t.2 == w then some n else JP t k r (n+1)
theorem QP {L:List Tk} {i:Nat} {ts:List KT} (h:Dn L i ts) (k:Nat):∀ (l:List (List UInt8)) (n:Nat),C0 L k i l n=JP (JB ts) k l n
 | [],_=>rfl
 | w :: r,n=>by
  unfold C0 JP;rw [Gb h,QP h k r (n+1)]
section
variable {d:Nat} {A B C:List KT} {a b c:Tr}
theorem Aan (ha:GR .expr 1 A d a) (hb:GR .expr 1 B d b) (hc:GR .expr 1 C d c):GR .expr 1 ((1,[105,102]) :: (A++(1,[116,104,101,110]) :: (B++(1,[101,108,115,101]) :: C))) (d+1) (Bf 14 [a,b,c]):=fun L o i r Bv ho hl=>by
 have h0:Dn L i ((1,[105,102]) :: (A++((1,[116,104,101,110]) :: (B++((1,[101,108,115,101]) :: (C++r)))))):=by simpa using Bv
 have h1:=A9 h0;obtain ⟨m1,r1⟩:=ha L (o+1) _ _ h1 (by omega) (by decide:LG (1,[116,104,101,110]) < 1);have h2:=BN h1;have h3:=A9 h2;obtain ⟨m2,r2⟩:=hb L (o+1) _ _ h3 (by omega) (by decide:LG (1,[101,108,115,101]) < 1);have h4:=BN h3;have h5:=A9 h4;obtain ⟨m3,r3⟩:=hc L (o+1) _ _ h5 (by omega) hl;refine BU ⟨max m1 (max m2 m3),fun n hm=>?_⟩;rw [pz,CT h0,if_pos rfl,if_pos (by omega),r1 n (by omega),A2,CH h2,A2,r2 n (by omega),A2,CH h4,A2,r3 n (by omega),A2];exact GH (by simp only [Aau,Aav];omega)
def hH (b:Bool):List (List KT×Tr)->List KT
 | []=>[]
 | x :: r=>(1,Nb b) :: (x.1++hH b r)
theorem mc {b:Bool} {lb:Nat} (vH:LG (1,Nb b) < lb) {d:Nat}:∀ (ks:List (List KT×Tr)) (acc:List Tr),acc.length+ks.length<=8->(∀ x ∈ ks,GR (Er b) lb x.1 d x.2) ->
 ∀ (L:List Tk) (o i:Nat) (r:List KT),Dn L i (hH b ks++r)->o+d<=100->LG (JB r) < LG (1,Nb b)->Rd L (.chainL b acc) o i (jV b (acc++ks.map (·.2))) (i+(hH b ks).length)
 | [],acc,_,_,L,o,i,r,Bv,ho,hl=>by
  rw [List.map_nil,Abh];exact Xl Bv hl
 | (A,a) :: ks,acc,hn,hk,L,o,i,r,Bv,ho,hl=>by
  rw [Aau] at hn;have h0:Dn L i ((1,Nb b) :: (A++(hH b ks++r))):=by simpa [hH] using Bv
  have h1:=A9 h0
  have nL:LG (JB (hH b ks++r)) < lb:=by
   cases ks with
   | nil=>exact Abk hl vH
   | cons y ks=>exact vH
  obtain ⟨m1,r1⟩:=hk (A,a) (by simp) L o _ _ h1 ho nL;obtain ⟨m2,r2⟩:=mc vH ks (acc++[a]) (by rw [Aav,Ab3];omega) (fun x hx=>hk x (by simp [hx])) L o _ _ (BN h1) ho hl;refine BU ⟨max m1 m2,fun n hm=>?_⟩;rw [pz,CT h0,if_pos rfl,if_neg (by omega),r1 n (by omega),A2,r2 n (by omega)];rw [Ab8,List.append_assoc];exact GH (by show i+1+A.length+(hH b ks).length=i+((1,Nb b) :: (A++hH b ks)).length;simp only [Aau,Aav];omega)
theorem xQ {b:Bool} {lb:Nat} (vH:LG (1,Nb b) < lb) {d:Nat} {A:List KT} {a:Tr} {ks:List (List KT×Tr)} (hn:ks.length<=7) (ha:GR (Er b) lb A d a) (hk:∀ x ∈ ks,GR (Er b) lb x.1 d x.2):GR (.chain b) (LG (1,Nb b)) (A++hH b ks) d (jV b (a :: ks.map (·.2))):=fun L o i r Bv ho hl=>by
 have h0:Dn L i (A++(hH b ks++r)):=by simpa using Bv
 have nL:LG (JB (hH b ks++r)) < lb:=by
  cases ks with
  | nil=>exact Abk hl vH
  | cons y ks=>exact vH
 obtain ⟨m1,r1⟩:=ha L o _ _ h0 ho nL;obtain ⟨m2,r2⟩:=mc vH ks [a] (by rw [Ab3];omega) hk L o _ _ (BN h0) ho hl;refine BU ⟨max m1 m2,fun n hm=>?_⟩;rw [pz,r1 n (by omega),A2,r2 n (by omega)];exact GH (by simp only [Aav];omega)
theorem xR (ha:GR .not 3 A d a):GR .not 3 ((1,[110,111,116]) :: A) (d+1) (Bf 6 [a]):=fun L o i r Bv ho hl=>by
 obtain ⟨m,r1⟩:=ha L (o+1) _ _ (A9 Bv) (by omega) hl;refine BU ⟨m,fun n hm=>?_⟩;rw [pz,CT Bv,if_pos rfl,if_pos (by omega),r1 n hm,A2];exact GH (by simp only [Aau];omega)
theorem xS {w:List UInt8} {k:Nat} (hw:JP (4,w) 4 GG 0=some k) (hl4:LG (4,w) < 5) (ha:GS .sum .sumL 6 A d a) (hb:GS .sum .sumL 6 B d b):GR .cmp 4 (A++(4,w) :: B) d (Qa k a b):=fun L o i r Bv ho hl=>by
 have h0:Dn L i (A++((4,w) :: (B++r))):=by simpa using Bv
 obtain ⟨m1,r1⟩:=g5c ha L o _ _ h0 ho hl4;have h1:=BN h0;obtain ⟨m2,r2⟩:=g5c hb L o _ _ (A9 h1) ho (by omega);refine BU ⟨max m1 m2,fun n hm=>?_⟩;rw [pz,r1 n (by omega),A2,QP h1];show (match JP (4,w) 4 GG 0 with | some k=>_ | none=>_)=_;rw [hw];show (pz L n .sum o (i+A.length+1)).bind _=_;rw [r2 n (by omega),A2];exact GH (by simp only [Aau,Aav];omega)
theorem xT (ha:GS .sum .sumL 6 A d a) (hb:GS .prod .prodL 7 B d b):GS .sum .sumL 6 (A++(4,[43]) :: B) d (Bf 11 [a,b]):=fun L o i r Bv ho hl x j ⟨m2,r2⟩=>by
 have h0:Dn L i (A++((4,[43]) :: (B++r))):=by simpa using Bv
 have h1:=BN h0;obtain ⟨m1,r1⟩:=g6c hb L o _ _ (A9 h1) ho hl;refine ha L o i _ h0 ho (by decide:LG (4,[43]) < 6) x j (BU ⟨max m1 m2,fun n hm=>?_⟩);rw [pz,CT h1,if_pos rfl,r1 n (by omega),A2];have e:i+A.length+1+B.length=i+(A++(4,[43]) :: B).length:=by simp only [Aau,Aav];omega
 rw [e];exact r2 n (by omega)
theorem xU (ha:GS .sum .sumL 6 A d a) (hb:GS .prod .prodL 7 B d b):GS .sum .sumL 6 (A++(4,[45]) :: B) d (Bf 12 [a,b]):=fun L o i r Bv ho hl x j ⟨m2,r2⟩=>by
 have h0:Dn L i (A++((4,[45]) :: (B++r))):=by simpa using Bv
 have h1:=BN h0;obtain ⟨m1,r1⟩:=g6c hb L o _ _ (A9 h1) ho hl;refine ha L o i _ h0 ho (by decide:LG (4,[45]) < 6) x j (BU ⟨max m1 m2,fun n hm=>?_⟩);have hp:Bs L 4 [43] (i+A.length)=false:=by rw [Gb h1];rfl
 rw [pz,hp,CT h1,if_neg (by decide),if_pos rfl,r1 n (by omega),A2];have e:i+A.length+1+B.length=i+(A++(4,[45]) :: B).length:=by simp only [Aau,Aav];omega
 rw [e];exact r2 n (by omega)
theorem xW (ha:GS .prod .prodL 7 A d a) (hb:GR .un 7 B d b):GS .prod .prodL 7 (A++(4,[42]) :: B) d (Bf 13 [a,b]):=fun L o i r Bv ho hl x j ⟨m2,r2⟩=>by
 have h0:Dn L i (A++((4,[42]) :: (B++r))):=by simpa using Bv
 have h1:=BN h0;obtain ⟨m1,r1⟩:=hb L o _ _ (A9 h1) ho hl;refine ha L o i _ h0 ho (by decide:LG (4,[42]) < 7) x j (BU ⟨max m1 m2,fun n hm=>?_⟩);rw [pz,CT h1,if_pos rfl,r1 n (by omega),A2];have e:i+A.length+1+B.length=i+(A++(4,[42]) :: B).length:=by simp only [Aau,Aav];omega
 rw [e];exact r2 n (by omega)
def npl (A:List KT):Prop:=A≠[]/\((JB A).1≠2\/∃ w r,A=(2,w) :: (4,[46]) :: r)
theorem xX (ha:GR .un 7 A d a) (hp:npl A):GR .un 7 ((4,[45]) :: A) (d+1) (Bf 12 [En 2 0,a]):=fun L o i r Bv ho hl=>by
 obtain ⟨m,r1⟩:=ha L (o+1) _ _ (A9 Bv) (by omega) hl;refine BU ⟨m,fun n hm=>?_⟩
 have Ke:Cz L (i+1)=false:=by
  have h1:=A9 Bv;obtain ⟨hn,h | ⟨w,q,rfl⟩⟩:=hp
  · cases A with
    | nil=>exact absurd rfl hn
    | cons y A=>
     have h:y.1≠2:=h;rw [Hr h1,beq_eq_false_iff_ne.2 h];rfl
  · rw [Hr h1];rfl
 rw [pz,CT Bv,if_pos rfl,Ke,if_neg (by decide),if_pos (by omega),r1 n hm,A2];exact GH (by simp only [Aau];omega)
theorem tI {w:List UInt8}:GR .un 7 [(4,[45]),(2,w)] d (En 2 (-(amtN w 0:Int))):=fun L o i r Bv ho hl=>by
 refine BU ⟨0,fun n hm=>?_⟩;have h1:Dn L (i+1) ((2,w) :: r):=A9 Bv;have hd:Bs L 4 [46] (i+1+1)=false:=JC (A9 h1) hl (by decide)
 have Ke:Cz L (i+1)=true:=by
  unfold Cz;rw [EP h1,hd];rfl
 rw [pz,CT Bv,if_pos rfl,Ke,if_pos rfl,Ms h1];rfl
theorem xY {w:List UInt8}:GR .prim 8 [(2,w)] d (En 2 (amtN w 0:Int)):=fun L o i r Bv ho hl=>by
 refine BU ⟨0,fun n hm=>?_⟩;have hd:Bs L 4 [46] (i+1)=false:=JC (A9 Bv) hl (by decide)
 have Ke:Cz L i=true:=by
  unfold Cz;rw [EP Bv,hd];rfl
 rw [pz,Ke,if_pos rfl,Ms Bv];rfl
theorem tJ {w x y:List UInt8} (h1:1<=amtN w 0) (h2:amtN w 0<=250) (hx:B8 x=true) (hy:B8 y=true):GR .prim 8 [(2,w),(4,[46]),(1,x),(4,[46]),(1,y)] d (.mk 2 0 0 [] zV ((amtN w 0:Int),x,y) []):=fun L o i r Bv ho hl=>by
 refine BU ⟨0,fun n hm=>?_⟩;have a1:=A9 Bv;have a2:=A9 a1;have a3:=A9 a2;have a4:=A9 a3;have Ke:Cz L i=false:=by rw [Hr Bv];rfl
 have hk:(tokAt L i).1=2:=EP Bv;rw [pz,Ke,if_neg (by decide),if_pos hk];unfold Ea;rw [OZ Bv h1 h2,A2,CH a1,A2,GQ a2 hx,A2,CH a3,A2,GQ a4 hy,A2];rfl
theorem xZ {w:List UInt8}:GR .prim 8 [(3,w)] d (.mk 1 0 0 [] (4,0,w) zK []):=fun L o i r Bv ho hl=>by
 refine BU ⟨0,fun n hm=>?_⟩;have Ke:Cz L i=false:=by rw [Hr Bv];rfl
 have hk:(tokAt L i).1=3:=EP Bv;rw [pz,Ke,if_neg (by decide),if_neg (by omega),if_pos hk,Ms Bv];rfl
theorem ya {w:List UInt8} (h:amtN w 0<=63):GR .prim 8 [(4,[35]),(2,w)] d (En 3 (amtN w 0:Int)):=fun L o i r Bv ho hl=>by
 refine BU ⟨0,fun n hm=>?_⟩;have Ke:Cz L i=false:=by rw [Hr Bv];rfl
 have hk:(tokAt L i).1=4:=EP Bv;rw [pz,Ke,if_neg (by decide),if_neg (by omega),if_neg (by omega),CT Bv,if_pos rfl,OZ (A9 Bv) (Ab5 _) h,A2];rfl
theorem yb (ha:GR .expr 1 A d a):GR .prim 8 ((4,[40]) :: (A++[(4,[41])])) (d+1) a:=fun L o i r Bv ho hl=>by
 have h0:Dn L i ((4,[40]) :: (A++((4,[41]) :: r))):=by simpa using Bv
 have h1:=A9 h0;obtain ⟨m,r1⟩:=ha L (o+1) _ _ h1 (by omega) (by decide:LG (4,[41]) < 1);refine BU ⟨m,fun n hm=>?_⟩;have Ke:Cz L i=false:=by rw [Hr h0];rfl
 have hk:(tokAt L i).1=4:=EP h0;have hb:Bs L 4 [35] i=false:=by rw [Gb h0];rfl
 rw [pz,Ke,if_neg (by decide),if_neg (by omega),if_neg (by omega),hb,if_neg (by decide),CT h0,if_pos rfl,if_pos (by omega),r1 n hm,A2,CH (BN h1),A2];exact GH (by simp only [Aau,Aav,List.length_nil];omega)
theorem Mt {w:List UInt8} {ts:List KT} (h:∀ (L:List Tk) (i:Nat) (r:List KT),Dn L i (((1,w) :: ts)++r)->LG (JB r) < 8->Fp L i=.ok a (i+((1,w) :: ts).length)):GR .prim 8 ((1,w) :: ts) d a:=fun L o i r Bv ho hl=>by
 refine BU ⟨0,fun n hm=>?_⟩;have h0:Dn L i ((1,w) :: (ts++r)):=Bv;have Ke:Cz L i=false:=by rw [Hr h0];rfl
 have hk:(tokAt L i).1=1:=EP h0;have hb:∀ s,Bs L 4 s i=false:=fun s=>by rw [Gb h0];rfl
 rw [pz,Ke,if_neg (by decide),if_neg (by omega),if_neg (by omega),hb,if_neg (by decide),hb,if_neg (by decide)];exact h L i r Bv hl
theorem A3 {L:List Tk} {i:Nat} {w:List UInt8} {r:List KT} (h:Dn L i ((1,w) :: r)) (s:List UInt8):Bs L 1 s i=(w == s):=by rw [Gb h];rfl
theorem tK:GR .prim 8 [(1,[116,114,117,101])] d (En 1 1):=Mt fun L i r h hl=>by
 unfold Fp;rw [A3 h];rfl
theorem pO:GR .prim 8 [(1,[102,97,108,115,101])] d (En 1 0):=Mt fun L i r h hl=>by
 unfold Fp;rw [A3 h,A3 h];rfl
theorem tL {s:List UInt8} (hs:B8 s=true):GR .prim 8 [(1,[109,111,100,101]),(1,[105,115]),(1,s)] d (.mk 3 0 0 s zV zK []):=Mt fun L i r h hl=>by
 have h1:=A9 h;have h2:=A9 h1;unfold Fp;rw [A3 h,A3 h,A3 h,CH h1,A2,GQ h2 hs];rfl
theorem ye {L:List Tk} {i:Nat} {x y:List UInt8} {r:List KT} (h:Dn L i ((2,x) :: (4,[58]) :: (2,y) :: r)) (hx:x.length=2) (hy:y.length=2) (h1:amtN x 0<=23) (h2:amtN y 0<=59):Fo L i=.ok (60 * amtN x 0+amtN y 0) (i+3):=by
 have a1:=A9 h;have a2:=A9 a1;unfold Fo;rw [mb h hx h1,A2,CH a1,A2,mb a2 hy h2,A2]
def two (k:Nat):List UInt8:=[rn (k / 10),rn (k % 10)]
theorem ew:∀ k:_root_.Fin 60,amtN (two k.val) 0=k.val:=by decide +kernel
def UB (n:Nat):List KT:=[(2,two (n / 60)),(4,[58]),(2,two (n % 60))]
theorem Xm {L:List Tk} {i n:Nat} {r:List KT} (h:Dn L i (UB n++r)) (hn:n < 1440):Fo L i=.ok n (i+3):=by
 have e1:=ew ⟨n / 60,by omega⟩;have e2:=ew ⟨n % 60,by omega⟩;simp only at e1 e2;rw [ye h rfl rfl (by rw [e1];omega) (by rw [e2];omega),e1,e2];exact GH rfl |>.trans (by rw [show 60 * (n / 60)+n % 60=n from by omega])
theorem tM {n m:Nat} (hn:n < 1440) (hm:m < 1440):GR .prim 8 ((1,[116,105,109,101]) :: (UB n++(1,[116,111]) :: UB m)) d (.mk 4 n m [] zV zK []):=Mt fun L i r h hl=>by
 have h0:Dn L i ((1,[116,105,109,101]) :: (UB n++((1,[116,111]) :: (UB m++r)))):=by simpa using h
 have h1:=A9 h0;have h2:Dn L (i+1+3) _:=BN h1;unfold Fp;rw [A3 h0,A3 h0,A3 h0,A3 h0,Xm h1 hn,A2,CH h2,A2,Xm (A9 h2) hm];rfl
theorem pP {L:List Tk} {i:Nat} {r:List KT} (Bv:Dn L i r) (hl:LG (JB r) < 8):C0 L 1 i C7 0=none:=by
 have f:∀ w,8<=LG (1,w)->Bs L 1 w i=false:=fun w hw=>JC Bv hl hw;unfold C7;simp only [C0];rw [f _ (by decide),f _ (by decide),f _ (by decide),f _ (by decide)];rfl
theorem tN:GR .prim 8 [(1,[104,111,109,101])] d (.mk 15 0 0 [] zV zK []):=Mt fun L i r h hl=>by
 unfold Fp;rw [A3 h,A3 h,A3 h,A3 h,A3 h,A3 h,pP (A9 h) hl];rfl
theorem Xn {w:List UInt8} {k:Nat} (hk:JP (1,w) 1 C7 0=some k):GR .prim 8 [(1,[104,111,109,101]),(1,w)] d (.mk 15 ((k+1:Nat):Int) 0 [] zV zK []):=Mt fun L i r h hl=>by
 have h1:Dn L (i+1) ((1,w) :: r):=A9 h;have hp:C0 L 1 (i+1) C7 0=some k:=by rw [QP h1];exact hk
 unfold Fp;rw [A3 h,A3 h,A3 h,A3 h,A3 h,A3 h,hp];rfl
end
def RT (w:List UInt8) (l d:Nat) (e:Tr):Prop:=∃ ts,Lx w ts/\G l ts d e/\Ta l ts/\(7<=l->Kb e≠1->npl ts)
theorem RT.le {w:List UInt8} {l l' d d':Nat} {e:Tr} (h:RT w l d e) (hl:l'<=l) (hd:d<=d'):RT w l' d' e:=by
 obtain ⟨ts,h1,h2,h3,h4⟩:=h;obtain ⟨k,rfl⟩:∃ k,l=l'+k:=⟨l - l',by omega⟩;exact ⟨ts,h1,G.mono hd (xP h2 h3),h3.mono hl,fun h=>h4 (by omega)⟩
theorem Zn (w:List UInt8) (b:UInt8) (n:Nat):amtN (w++[b]) n=10 * amtN w n+(b.toNat - 48):=by
 unfold amtN;rw [List.foldl_append];rfl
theorem me:∀ k:_root_.Fin 10,dg (Ab1 (48+k.val)).toNat=true/\(Ab1 (48+k.val)).toNat - 48=k.val:=by decide +kernel
theorem cc:∀ m n,n < m->pK (Ab2 n)=true/\amtN (Ab2 n) 0=n
 | 0,_,h=>by omega
 | m+1,n,h=>by
  by_cases c:n < 10
  · have e:=me ⟨n,c⟩
    rw [Lib.decDigits_one c];refine ⟨?_,?_⟩
    · show (!false && ([Ab1 (48+n)].all fun b=>dg b.toNat))=true
      rw [Ab9,e.1];rfl
    · have:=Zn [] (Ab1 (48+n)) 0
      rw [List.nil_append] at this;rw [this,e.2];show 10 * 0+n=n;omega
  · obtain ⟨h1,h2⟩:=cc m (n / 10) (by omega)
    have e:=me ⟨n % 10,by omega⟩
    have ed:Ab2 n=Ab2 (n / 10)++[Ab1 (48+n % 10)]:=by
     rw [Ab2,dif_neg c]
    rw [ed,Zn,h2,e.2];unfold pK at h1 |-;rw [Aay] at h1 |-;have e0:dg (Ab1 (48+n % 10)).toNat=true:=e.1;refine ⟨⟨by simp,by rw [List.all_append,h1.2,Ab9,e0];rfl⟩,?_⟩;show 10 * (n / 10)+n % 10=n;omega
theorem JD {n:Int} (h:0<=n):pK (Aax n)=true/\(amtN (Aax n) 0:Int)=n:=by
 unfold Aax;rw [if_neg (by omega)];have:=cc _ n.toNat (Abg _);exact ⟨this.1,by rw [this.2];omega⟩
theorem pQ {n:Int} (h:n < 0):∃ w,Aax n=45 :: w/\pK w=true/\(amtN w 0:Int)=-n:=by
 unfold Aax;rw [if_pos h];have:=cc _ n.natAbs (Abg _);exact ⟨_,rfl,this.1,by rw [this.2];omega⟩
theorem mf:∀ (n:_root_.Fin 256) ,(db 0 n.val=true->sm n.val=true)/\(db 1 n.val=true->pt n.val=true):=by decide +kernel
theorem yf (i n:Nat):db (i+1) n=db 1 n:=by unfold db;simp
theorem ey:∀ (r:List UInt8) (i:Nat),Tz (i+1) r=true->r.all (fun b=>pt b.toNat)=true
 | [],_,_=>rfl
 | c :: r,i,h=>by
  unfold Tz at h;rw [Aay,yf] at h;have e1:pt c.toNat=true:=(mf ⟨c.toNat,Abf c⟩).2 h.1;rw [Ab9,e1,ey r (i+1) h.2];rfl
theorem FC {s:List UInt8} (h:B8 s=true):Pw s=true:=by
 unfold B8 at h;rw [Aay,decide_eq_true_eq] at h;cases s with
 | nil=>simp at h
 | cons c r=>
  have h2:=h.2;unfold Tz at h2;rw [Aay] at h2;unfold Pw;have e1:sm c.toNat=true:=(mf ⟨c.toNat,Abf c⟩).1 h2.1;show (sm c.toNat && r.all fun b=>pt b.toNat)=true;rw [e1,ey r 0 h2.2];rfl
theorem yg {v:Vl} (h:Ku v=0):Pn v.1 v.2.1=some true:=by
 unfold Ku at h;split at h
 · cases h
 · cases h
 · assumption
section
variable {d:Nat}
theorem Tb {k:Nat} {w:List UInt8} {r:List KT} (h1:k≠1) (h2:k≠4\/w≠[45]):Ta 8 ((k,w) :: r):=
 ⟨by simp,fun _ h=>h1 (congrArg Ab4 h),fun _ h=>h1 (congrArg Ab4 h),fun _ h=>h2.elim (fun x=>x (congrArg Ab4 h)) (fun x=>x (congrArg Abc h))⟩
theorem mg {r:List KT}:Ta 7 ((4,[45]) :: r):=
 ⟨by simp,fun _ h=>absurd (congrArg Ab4 h) (by decide:(4:Nat)≠1),fun _ h=>absurd (congrArg Ab4 h) (by decide:(4:Nat)≠1),fun h=>absurd h (by decide)⟩
theorem Ii {w:List UInt8} {r:List KT} (h1:w≠[105,102]) (h2:w≠[110,111,116]):Ta 8 ((1,w) :: r):=
 ⟨by simp,fun _ h=>h1 (congrArg Abc h),fun _ h=>h2 (congrArg Abc h),fun _ h=>absurd (congrArg Ab4 h) (by decide:(1:Nat)≠4)⟩
theorem pR:RT sT 8 d (En 1 1):=⟨[(1,[116,114,117,101])],CG (by decide),tK,Ii (by decide) (by decide),fun _ h=>absurd rfl h⟩
theorem mh:RT sF 8 d (En 1 0):=⟨[(1,[102,97,108,115,101])],CG (by decide),pO,Ii (by decide) (by decide),fun _ h=>absurd rfl h⟩
theorem tO {n:Int} (hn:0<=n):RT (Aax n) 8 d (En 2 n):=by
 obtain ⟨e2,e3⟩:=JD hn;have hg:=xY (w:=Aax n) (d:=d);rw [e3] at hg;exact ⟨[(2,Aax n)],JA e2,hg,Tb (by decide) (.inl (by decide)),fun _ h=>absurd rfl h⟩
theorem tP {n:Int} (hn:n < 0):RT (Aax n) 7 d (En 2 n):=by
 obtain ⟨w,e1,e2,e3⟩:=pQ hn;rw [e1];have hg:=tI (w:=w) (d:=d);rw [e3,Int.neg_neg] at hg;exact ⟨[(4,[45]),(2,w)],Ef (FR (c:=45) (by decide)) (JA e2),hg,mg,fun _ h=>absurd rfl h⟩
theorem tQ {n:Int} (hn:0<=n) (h2:n<=63):RT (35 :: Aax n) 8 d (En 3 n):=by
 obtain ⟨e2,e3⟩:=JD hn;have hg:=ya (w:=Aax n) (d:=d) (by omega);rw [e3] at hg;exact ⟨[(4,[35]),(2,Aax n)],pL e2,hg,Tb (by decide) (.inr (by decide)),fun _ h=>absurd rfl h⟩
theorem tR {s:List UInt8} (h:s.length<=60):RT (BD s) 8 d (.mk 1 0 0 [] (4,0,s) zK []):=
 ⟨[(3,s)],(l9 h).lx,xZ,Tb (by decide) (.inl (by decide)),fun _ h=>absurd rfl h⟩
theorem tS {v:Vl} (hc:Ku v=0) (h0:v.1≠0):RT (ZX v) (gL v).toNat d (.mk 1 0 0 [] v zK []):=by
 have hk:=bJ hc;have ho:=yg hc
 have ep:ZX v=if v.1=1 then (if v.2.1=1 then sT else sF) else if v.1=2 then Aax v.2.1 else if v.1=3 then 35 :: Aax v.2.1 else BD v.2.2:=by
  unfold ZX;rw [if_neg (by omega),if_neg h0]
 rw [ep];clear ep hc;unfold gL;obtain ⟨k,n,s⟩:=v;simp only at hk ho h0 |-;obtain ⟨vG,hk,hs⟩:=hk;have hk:k=1\/k=2\/k=3\/k=4:=by omega
 rcases hk with rfl | rfl | rfl | rfl
 · have hs:=hs (by decide)
   subst hs
   have hn:n=0\/n=1:=by
    unfold Pn at ho;simpa using ho
   rcases hn with rfl | rfl
   · exact mh
   · exact pR
 · have hs:=hs (by decide)
   subst hs;by_cases hn:n < 0
   · have e:(if (2:Int)=2/\n < 0 then (7:Int) else 8)=7:=if_pos ⟨rfl,hn⟩
     rw [e];exact tP hn
   · have e:(if (2:Int)=2/\n < 0 then (7:Int) else 8)=8:=if_neg fun h=>hn h.2
     rw [e];exact tO (by omega)
 · have hs:=hs (by decide)
   subst hs
   have hn:0<=n/\n<=63:=by
    unfold Pn at ho;simpa using ho
   exact tQ hn.1 hn.2
 · have hn:n=0:=by
    unfold Pn at ho;simpa using ho
   subst hn;exact tR vG
theorem Px {w:List UInt8} {r:List KT}:npl ((1,w) :: r):=⟨by simp,.inl (by decide:(1:Nat)≠2)⟩
theorem pS {k:Ky} (h1:1<=k.1) (h2:k.1<=250) (hx:B8 k.2.1=true) (hy:B8 k.2.2=true):RT (E3 k.1 k.2.1 k.2.2) 8 d (.mk 2 0 0 [] zV k []):=by
 obtain ⟨n,x,y⟩:=k;simp only at h1 h2 hx hy |-;obtain ⟨e2,e3⟩:=JD (n:=n) (by omega);have hg:=tJ (w:=Aax n) (d:=d) (by omega) (by omega) hx hy;rw [e3] at hg;have ht:E3 n x y=Aax n++([46]++(x++([46]++y))):=by unfold E3 cat;simp
 rw [ht]
 exact ⟨[(2,Aax n),(4,[46]),(1,x),(4,[46]),(1,y)],Da (JA e2) (Ef (FR (c:=46) (by decide)) (Da (CG (FC hx)) (Ef (FR (c:=46) (by decide)) (CG (FC hy))) rfl)) rfl,hg,
  Tb (by decide) (.inl (by decide)),fun _ _=>⟨by simp,.inr ⟨_,_,rfl⟩⟩⟩
theorem pT {s:List UInt8} (hs:B8 s=true):RT (cat [109,111,100,101,32,105,115,32] s) 8 d (.mk 3 0 0 s zV zK []):=by
 exact ⟨_,B9 (w:=[109,111,100,101]) (by decide) (B9 (w:=[105,115]) (by decide) (CG (FC hs))),tL hs,Ii (by decide) (by decide),fun _ _=>Px⟩
theorem mi:∀ k:_root_.Fin 60,pK (two k.val)=true:=by decide +kernel
theorem Xo {n:Nat} (h:n < 1440):Lx (FL n) (UB n):=by
 have e1:=mi ⟨n / 60,by omega⟩;have e2:=mi ⟨n % 60,by omega⟩;exact Da (JA e1) (Ef (FR (c:=58) (by decide)) (JA e2)) rfl
theorem pU {n m:Nat} (hn:n < 1440) (hm:m < 1440):RT (cat (cat (cat [116,105,109,101,32] (FL n)) [32,116,111,32]) (FL m)) 8 d (.mk 4 n m [] zV zK []):=by
 have ht:cat (cat (cat [116,105,109,101,32] (FL n)) [32,116,111,32]) (FL m)=[116,105,109,101]++32 :: (FL n++32 :: ([116,111]++32 :: FL m)):=by unfold cat;simp
 rw [ht];exact ⟨_,B9 (by decide) (Da (Xo hn) (IZ (B9 (by decide) (Xo hm))) rfl),tM hn hm,Ii (by decide) (by decide),fun _ _=>Px⟩
theorem pV {n:Nat} (hn:n<=4):RT (kX n) 8 d (.mk 15 n 0 [] zV zK []):=by
 match n,hn with
 | 0,_=>exact ⟨_,CG (w:=[104,111,109,101]) (by decide),tN,Ii (by decide) (by decide),fun _ _=>Px⟩
 | 1,_=>exact ⟨_,B9 (w:=[104,111,109,101]) (by decide) (CG (w:=[103,117,101,115,116]) (by decide)),Xn (k:=0) rfl,Ii (by decide) (by decide),fun _ _=>Px⟩
 | 2,_=>exact ⟨_,B9 (w:=[104,111,109,101]) (by decide) (CG (w:=[99,104,105,108,100]) (by decide)),Xn (k:=1) rfl,Ii (by decide) (by decide),fun _ _=>Px⟩
 | 3,_=>exact ⟨_,B9 (w:=[104,111,109,101]) (by decide) (CG (w:=[97,100,117,108,116]) (by decide)),Xn (k:=2) rfl,Ii (by decide) (by decide),fun _ _=>Px⟩
 | 4,_=>exact ⟨_,B9 (w:=[104,111,109,101]) (by decide) (CG (w:=[111,119,110,101,114]) (by decide)),Xn (k:=3) rfl,Ii (by decide) (by decide),fun _ _=>Px⟩
def O0:Nat->List (List UInt8)->List KT
 | _,[]=>[]
 | m,w :: r=>if m % 2=1 then (if m / 2=0 then [(1,w)] else (1,w) :: (4,[44]) :: O0 (m / 2) r) else O0 (m / 2) r
def mj:Nat->List (List UInt8)->Nat->Nat->Nat
 | _,[],_,a=>a
 | m,_ :: r,k,a=>if m % 2=1 then (if m / 2=0 then a ||| 2 ^ k else mj (m / 2) r (k+1) (a ||| 2 ^ k)) else mj (m / 2) r (k+1) a
theorem Zo:∀ m:_root_.Fin 128,mj m.val Cy 0 0=m.val:=by decide +kernel
theorem QQ:∀ (ws:List (List UInt8)) (m:Nat),(∀ w ∈ ws,Pw w=true)->m≠0->m < 2 ^ ws.length->Lx (W0 m ws) (O0 m ws)
 | [],m,_,h0,h=>by simp at h;omega
 | w :: r,m,hw,h0,h=>by
  rw [Aau,Abj] at h;unfold W0 O0;by_cases c:m % 2=1
  · rw [if_pos c,if_pos c]
    by_cases c2:m / 2=0
    · rw [if_pos c2,if_pos c2]
      exact CG (hw w (by simp))
    · rw [if_neg c2,if_neg c2]
      exact Da (CG (hw w (by simp))) (Ef (FR (c:=44) (by decide)) (QQ r (m / 2) (fun x hx=>hw x (by simp [hx])) c2 (by omega))) rfl
  · rw [if_neg c,if_neg c]
    exact QQ r (m / 2) (fun x hx=>hw x (by simp [hx])) (by omega) (by omega)
theorem ml {L:List Tk} {i k:Nat} {w:List UInt8} {r:List KT} (h:Dn L i ((1,w) :: r)) (hp:JP (1,w) 1 Cy 0=some k):P9 L i=.ok k (i+1):=by
 unfold P9;rw [QP h];show (match JP (1,w) 1 Cy 0 with | some k=>_ | none=>_)=_;rw [hp]
theorem QR {L:List Tk}:∀ (ws:List (List UInt8)) (k m a n i:Nat) (r:List KT),(∀ j w,ws[j]?=some w->JP (1,w) 1 Cy 0=some (k+j))->m≠0->m < 2 ^ ws.length->(O0 m ws).length<=n->Dn L i (O0 m ws++r)->LG (JB r) < 8 ->
 IA L n a i=.ok (mj m ws k a) (i+(O0 m ws).length)
 | [],k,m,a,n,i,r,_,h0,h,_,_,_=>by simp at h;omega
 | w :: q,k,m,a,n,i,r,hw,h0,h,hn,Bv,hl=>by
  rw [Aau,Abj] at h;have hw0:=hw 0 w rfl
  have hws:∀ j x,q[j]?=some x->JP (1,x) 1 Cy 0=some (k+1+j):=fun j x hx=>by
   have:=hw (j+1) x hx;rw [this];congr 1;omega
  unfold O0 at Bv hn |-;unfold mj;by_cases c:m % 2=1
  · rw [if_pos c] at Bv hn |-
    rw [if_pos c];by_cases c2:m / 2=0
    · rw [if_pos c2] at Bv hn |-
      rw [if_pos c2];rw [Ab3] at hn;obtain ⟨n,rfl⟩:∃ x,n=x+1:=⟨n - 1,by omega⟩;unfold IA;rw [ml Bv hw0,A2,JC (A9 Bv) hl (by decide)];rfl
    · rw [if_neg c2] at Bv hn |-
      rw [if_neg c2];rw [Aau,Aau] at hn;obtain ⟨n,rfl⟩:∃ x,n=x+1:=⟨n - 1,by omega⟩;have h1:=A9 Bv;have ih:=QR q (k+1) (m / 2) (a ||| 2 ^ k) n (i+1+1) r hws c2 (by omega) (by omega) (A9 h1) hl;unfold IA;rw [ml Bv hw0,A2,CT h1,if_pos rfl];show IA L n (a ||| 2 ^ (k+0)) (i+1+1)=_;rw [Nat.add_zero,ih];exact GH (by simp only [Aau];omega)
  · rw [if_neg c] at Bv hn |-
    rw [if_neg c];exact QR q (k+1) (m / 2) a n i r hws (by omega) (by omega) hn Bv hl
theorem ez {L:List Tk} {i:Nat} {ts r:List KT} (h:Dn L i (ts++r)):ts.length<=L.length:=by
 unfold Dn at h;have:((L.drop i).map kt).length=(ts++r).length:=by rw [h]
 rw [Ab6,List.length_drop,Aav] at this;omega
theorem Zp:∀ (j:Nat) (w:List UInt8),Cy[j]?=some w->JP (1,w) 1 Cy 0=some (0+j):=by
 intro j w h
 match j,h with
 | 0,h | 1,h | 2,h | 3,h | 4,h | 5,h | 6,h=>injection h with h;subst h;rfl
 | j+7,h=>cases h
theorem tT {m:Nat} (h0:m≠0) (h:m < 128):GR .prim 8 ((1,[100,97,121,115]) :: O0 m Cy) d (.mk 5 m 0 [] zV zK []):=Mt fun L i r Bv hl=>by
 have h1:Dn L (i+1) (O0 m Cy++r):=A9 Bv;have h2:=QR Cy 0 m 0 (L.length+1) (i+1) r Zp h0 h (by have:=ez h1;omega) h1 hl;have hu:=Zo ⟨m,h⟩;simp only at hu;rw [hu] at h2;have yX:Dn L i ((1,[100,97,121,115]) :: (O0 m Cy++r)):=Bv;unfold Fp KC;rw [A3 yX,A3 yX,A3 yX,A3 yX,A3 yX,h2];show PR.ok _ _=PR.ok _ _;exact GH (by simp only [Aau];omega)
theorem pW {m:Nat} (h0:m≠0) (h:m < 128):RT (Ql m) 8 d (.mk 5 m 0 [] zV zK []):=
 ⟨_,B9 (w:=[100,97,121,115]) (by decide) (QQ bK m (by decide) h0 h),tT h0 h,Ii (by decide) (by decide),fun _ _=>Px⟩
end
section
variable {d:Nat} {A B C:List UInt8} {a b c:Tr}
theorem tU (h:RT A 0 d a):RT (cat (cat [40] A) [41]) 8 (d+1) a:=by
 obtain ⟨ts,h1,h2,h3,_⟩:=h;have e:cat (cat [40] A) [41]=[40]++(A++[41]):=by unfold cat;simp
 rw [e];exact ⟨(4,[40]) :: (ts++[(4,[41])]),Ef (FR (c:=40) (by decide)) (Da h1 (FR (c:=41) (by decide)).lx rfl),yb h2,Tb (by decide) (.inr (by decide)),fun _ _=>⟨by simp,.inl (by decide:(4:Nat)≠2)⟩⟩
theorem K6 {l:Nat} {ts r:List KT} (h:Ta l ts):Ta l (ts++r):=by
 obtain ⟨h1,h2⟩:=h;refine ⟨by simp [h1],?_⟩;rw [eu h1];exact h2
theorem yh (ha:RT A 0 d a) (hb:RT B 0 d b) (hc:RT C 0 d c):RT (cat (cat (cat (cat (cat [105,102,32] A) [32,116,104,101,110,32]) B) [32,101,108,115,101,32]) C) 0 (d+1) (Bf 14 [a,b,c]):=by
 obtain ⟨t1,x1,y1,_,_⟩:=ha;obtain ⟨t2,x2,y2,_,_⟩:=hb;obtain ⟨t3,x3,y3,_,_⟩:=hc;have e:cat (cat (cat (cat (cat [105,102,32] A) [32,116,104,101,110,32]) B) [32,101,108,115,101,32]) C=[105,102]++32 :: (A++(32 :: ([116,104,101,110]++32 :: (B++(32 :: ([101,108,115,101]++32 :: C)))))):=by unfold cat;simp
 rw [e];exact ⟨_,B9 (by decide) (Da x1 (IZ (B9 (by decide) (Da x2 (IZ (B9 (by decide) x3)) rfl))) rfl),Aan y1 y2 y3,⟨by simp,fun h=>absurd h (by decide),fun h=>absurd h (by decide),fun h=>absurd h (by decide)⟩,fun h=>absurd h (by decide)⟩
theorem QS {op:List UInt8} {t1 t2:List KT} (x1:Lx A t1) (x2:Lx B t2) (ho:Lx op [(4,op)]):Lx (cat (cat (cat (cat A [32]) op) [32]) B) (t1++(4,op) :: t2):=by
 have e:cat (cat (cat (cat A [32]) op) [32]) B=A++(32 :: (op++(32 :: B))):=by unfold cat;simp
 rw [e];exact Da x1 (IZ (Da ho (IZ x2) rfl)) rfl
theorem Xp {op:List UInt8} {k:Nat} (hw:JP (4,op) 4 GG 0=some k) (hl4:LG (4,op) < 5) (ho:Lx op [(4,op)]) (ha:RT A 5 d a) (hb:RT B 5 d b):RT (cat (cat (cat (cat A [32]) op) [32]) B) 4 d (Qa k a b):=by
 obtain ⟨t1,x1,y1,z1,_⟩:=ha;obtain ⟨t2,x2,y2,_,_⟩:=hb;exact ⟨_,QS x1 x2 ho,xS hw hl4 y1 y2,K6 (z1.mono (by decide)),fun h=>absurd h (by decide)⟩
theorem tV (ha:RT A 5 d a) (hb:RT B 6 d b):RT (cat (cat (cat (cat A [32]) [43]) [32]) B) 5 d (Bf 11 [a,b]):=by
 obtain ⟨t1,x1,y1,z1,_⟩:=ha;obtain ⟨t2,x2,y2,_,_⟩:=hb;exact ⟨_,QS x1 x2 (FR (c:=43) (by decide)).lx,xT y1 y2,K6 z1,fun h=>absurd h (by decide)⟩
theorem tW (ha:RT A 5 d a) (hb:RT B 6 d b):RT (cat (cat (cat (cat A [32]) [45]) [32]) B) 5 d (Bf 12 [a,b]):=by
 obtain ⟨t1,x1,y1,z1,_⟩:=ha;obtain ⟨t2,x2,y2,_,_⟩:=hb;exact ⟨_,QS x1 x2 (FR (c:=45) (by decide)).lx,xU y1 y2,K6 z1,fun h=>absurd h (by decide)⟩
theorem tX (ha:RT A 6 d a) (hb:RT B 7 d b):RT (cat (cat (cat (cat A [32]) [42]) [32]) B) 6 d (Bf 13 [a,b]):=by
 obtain ⟨t1,x1,y1,z1,_⟩:=ha;obtain ⟨t2,x2,y2,_,_⟩:=hb;exact ⟨_,QS x1 x2 (FR (c:=42) (by decide)).lx,xW y1 y2,K6 z1,fun h=>absurd h (by decide)⟩
theorem tY (ha:RT A 3 d a):RT (cat [110,111,116,32] A) 3 (d+1) (Bf 6 [a]):=by
 obtain ⟨t1,x1,y1,z1,_⟩:=ha;exact ⟨(1,[110,111,116]) :: t1,B9 (w:=[110,111,116]) (by decide) x1,xR y1,⟨by simp,fun _ h=>absurd (congrArg Abc h) (by decide:([110,111,116]:List UInt8)≠[105,102]),fun h=>absurd h (by decide),fun h=>absurd h (by decide)⟩,fun h=>absurd h (by decide)⟩
theorem tZ (ha:RT A 7 d a) (hk:Kb a≠1):RT (cat [45] A) 7 (d+1) (Bf 12 [En 2 0,a]):=by
 obtain ⟨t1,x1,y1,z1,w1⟩:=ha;exact ⟨(4,[45]) :: t1,Ef (FR (c:=45) (by decide)) x1,xX y1 (w1 (by decide) hk),mg,fun _ _=>⟨by simp,.inl (by decide:(4:Nat)≠2)⟩⟩
end
def ua (op:List UInt8):List (List UInt8)->List UInt8
 | []=>[]
 | s :: r=>32 :: (op++32 :: (s++ua op r))
theorem rG (op:List UInt8):∀ l,bk (ua op l)=true
 | []=>rfl
 | _ :: _=>rfl
theorem mm {b:Bool} {lb d:Nat}:∀ (l:List (List UInt8×Tr)),(∀ x ∈ l,∃ ts,Lx x.1 ts/\GR (Er b) lb ts d x.2)->∃ ks:List (List KT×Tr),ks.map (·.2)=l.map (·.2)/\(∀ y ∈ ks,GR (Er b) lb y.1 d y.2)/\Lx (ua (Nb b) (l.map (·.1))) (hH b ks)
 | [],_=>⟨[],rfl,fun _ h=>(by cases h),l8.lx⟩
 | (s,e) :: l,h=>by
  obtain ⟨ks,k1,k2,k3⟩:=mm l fun x hx=>h x (by simp [hx]);obtain ⟨ts,t1,t2⟩:=h (s,e) (by simp);refine ⟨(ts,e) :: ks,by rw [Ab8,Ab8,k1],fun y hy=>?_,?_⟩
  · rcases Ab7.1 hy with rfl | hy
    · exact t2
    · exact k2 y hy
  · exact IZ (B9 (by cases b <;> decide) (Da t1 k3 (rG _ _)))
theorem ub (b:Bool) {d:Nat} {s:List UInt8} {e:Tr} {l:List (List UInt8×Tr)} (hn:l.length<=7) (h:∀ x ∈ (s,e) :: l,RT x.1 (if b then 2 else 3) d x.2):RT (s++ua (Nb b) (l.map (·.1))) (LG (1,Nb b)) d (jV b (e :: l.map (·.2))):=by
 have hx:∀ x ∈ (s,e) :: l,∃ ts,Lx x.1 ts/\GR (Er b) (if b then 2 else 3) ts d x.2:=fun x hx=>by
  obtain ⟨ts,t1,t2,_,_⟩:=h x hx;refine ⟨ts,t1,?_⟩;cases b <;> exact t2
 obtain ⟨ks,k1,k2,k3⟩:=mm l fun x h=>hx x (by simp [h]);obtain ⟨ts,t1,t2,t3,_⟩:=h (s,e) (by simp)
 have hl:ks.length<=7:=by
  have:(ks.map (·.2)).length=(l.map (·.2)).length:=by rw [k1]
  rw [Ab6,Ab6] at this;omega
 have hg:=xQ (b:=b) (lb:=if b then 2 else 3) (by cases b <;> decide) hl (A:=ts) (a:=e) (d:=d) (by cases b <;> exact t2) k2;rw [k1] at hg;refine ⟨ts++hH b ks,Da t1 k3 (rG _ _),?_,K6 (t3.mono (by cases b <;> decide)),fun h=>absurd h (by cases b <;> decide)⟩;cases b <;> exact hg
theorem eA (op:List UInt8) (least:Int):∀ (l:List At) (i:Nat) (acc:List UInt8),Hn op least l (i+1) acc=acc++ua op (l.map fun a=>EN a least)
 | [],_,acc=>by unfold Hn;show acc=acc++[];rw [Abh]
 | a :: r,i,acc=>by
  unfold Hn;rw [if_pos (by omega),eA op least r (i+1)];show _=acc++(32 :: (op++32 :: (EN a least++ua op (r.map fun a=>EN a least))));unfold cat;simp
theorem uc (op:List UInt8) (least:Int) (a:At) (l:List At):Hn op least (a :: l) 0 []=EN a least++ua op (l.map fun a=>EN a least):=by
 show Hn op least l 1 (cat (if 0 < 0 then _ else []) (EN a least))=_;rw [if_neg (by omega),eA];rfl
def RB (t:Tr) (d:Nat):Prop:=RT (TX t) (LV t).toNat d t/\0<=LV t/\LV t<=8
def RR (t:Tr) (d:Nat):Prop:=RB t d/\Wi t=0/\∀ g ∈ EO t,RB g d
theorem RB.mono {t:Tr} {d d':Nat} (h:RB t d) (hd:d<=d'):RB t d':=⟨h.1.le (Aaz _) hd,h.2⟩
theorem Tc {t:Tr} {d:Nat} (h:RB t d) (least:Int) (l:Nat) (hl:least=l) (h8:l<=8):RT (EN (an t) least) l (d+1) t:=by
 obtain ⟨h1,h2,h3⟩:=h;unfold EN;by_cases c:(an t).lv < least
 · rw [if_pos c]
   exact (tU (h1.le (Ab5 _) (Aaz _))).le h8 (Aaz _)
 · rw [if_neg c]
   have c:¬ LV t < least:=c;exact h1.le (by omega) (by omega)
theorem sp0 {k n m:Int} {nm:List UInt8} {v:Vl} {key:Ky} {kids:List Tr} (h:iA (.mk k n m nm v key kids)=false) :
 (n=0\/k=4\/k=5\/k=15)/\(m=0\/k=4)/\(nm=[]\/k=3)/\(v=zV\/k=1)/\(key=zK\/k=2):=by
 obtain ⟨v1,v2,v3⟩:=v;obtain ⟨y1,y2,y3⟩:=key;simp only [iA,zO,We,Fj,Abd,Abb,Abe,Abi,Aay,beq_iff_eq,bne_eq_false_iff_eq] at h;obtain ⟨⟨⟨⟨h1,h2⟩,h3⟩,h4⟩,h5⟩:=h;refine ⟨?_,h2,h3,?_,?_⟩
 · rcases h1 with h | (h | h) | h
   · exact .inl h
   · exact .inr (.inl h)
   · exact .inr (.inr (.inl h))
   · exact .inr (.inr (.inr h))
 · rcases h4 with ⟨⟨rfl,rfl⟩,rfl⟩ | h
   · exact .inl rfl
   · exact .inr h
 · rcases h5 with ⟨⟨rfl,rfl⟩,rfl⟩ | h
   · exact .inl rfl
   · exact .inr h
theorem nd0 {k n m:Int} {nm:List UInt8} {v:Vl} {key:Ky} {kids:List Tr} (h:Wi (.mk k n m nm v key kids)=0) :
 1<=k/\k<=15/\Em k kids.length=true/\iA (.mk k n m nm v key kids)=false/\Fk k n m key.1=true/\(k=3->B8 nm=true)/\(k=2->B8 key.2.1=true/\B8 key.2.2=true)/\(k=1->Ku v=0/\v.1≠0):=by
 have h:(if k < 1\/15 < k then (7:Int) else if Em k kids.length=false\/iA (.mk k n m nm v key kids)=true then 1 else if Fk k n m key.1=false then 2 else
  if k=3 then (if B8 nm then 0 else 10) else if k=2 then (if B8 key.2.1 && B8 key.2.2 then 0 else 10) else if k=1 then (if Ku v≠0 then Ku v else if v.1=0 then 7 else 0) else 0)=0:=h
 by_cases c1:k < 1\/15 < k
 · rw [if_pos c1] at h;cases h
 rw [if_neg c1] at h;by_cases c2:Em k kids.length=false\/iA (.mk k n m nm v key kids)=true
 · rw [if_pos c2] at h;cases h
 rw [if_neg c2] at h;by_cases c3:Fk k n m key.1=false
 · rw [if_pos c3] at h;cases h
 rw [if_neg c3] at h;refine ⟨by omega,by omega,?_,?_,?_,fun e=>?_,fun e=>?_,fun e=>?_⟩
 · cases x:Em k kids.length with
   | true=>rfl
   | false=>exact absurd (.inl x) c2
 · cases x:iA (.mk k n m nm v key kids) with
   | false=>rfl
   | true=>exact absurd (.inr x) c2
 · cases x:Fk k n m key.1 with
   | true=>rfl
   | false=>exact absurd x c3
 · rw [if_pos e] at h
   cases x:B8 nm with
   | true=>rfl
   | false=>rw [x] at h;cases h
 · rw [if_neg (by omega),if_pos e] at h
   cases x:B8 key.2.1 with
   | false=>rw [x] at h;cases h
   | true=>
    cases y:B8 key.2.2 with
    | true=>exact ⟨rfl,rfl⟩
    | false=>rw [x,y] at h;cases h
 · rw [if_neg (by omega),if_neg (by omega),if_pos e] at h
   by_cases x:Ku v=0
   · rw [if_neg (fun y=>y x)] at h
     refine ⟨x,fun y=>?_⟩;rw [if_pos y] at h;cases h
   · rw [if_pos x] at h;exact absurd h x
theorem FT (k n m:Int) (nm:List UInt8) (v:Vl) (key:Ky) (kids:List Tr):TX (.mk k n m nm v key kids)=Ll k n m nm v key kids (HP kids):=by
 unfold TX;rw [Y3];rfl
theorem FU (k n m:Int) (nm:List UInt8) (v:Vl) (key:Ky) (kids:List Tr):LV (.mk k n m nm v key kids)=W3 k v kids:=by
 unfold LV;rw [Y3];rfl
theorem Aao {l:List Tr} (h:l.length=1):∃ a,l=[a]:=by
 match l,h with
 | [a],_=>exact ⟨a,rfl⟩
theorem hO {l:List Tr} (h:l.length=2):∃ a b,l=[a,b]:=by
 match l,h with
 | [a,b],_=>exact ⟨a,b,rfl⟩
theorem Aap {l:List Tr} (h:l.length=3):∃ a b c,l=[a,b,c]:=by
 match l,h with
 | [a,b,c],_=>exact ⟨a,b,c,rfl⟩
theorem ud (a:Tr):HP [a]=[an a]:=by rw [NC];rfl
theorem Zq (a b:Tr):HP [a,b]=[an a,an b]:=by rw [NC];rfl
theorem Aaq (a b c:Tr):HP [a,b,c]=[an a,an b,an c]:=by rw [NC];rfl
theorem mn {t:Tr} {k:Int} (h:Wi t=0) (hk:Kb t=k) (h9:9<=k) (yW:k<=13):∃ a b,t=Bf k [a,b]:=by
 obtain ⟨k',n,m,nm,v,key,kids⟩:=t;have hk:k'=k:=hk;subst hk;obtain ⟨_,_,f3,f4,_⟩:=nd0 h;obtain ⟨s1,s2,s3,s4,s5⟩:=sp0 f4;have e1:n=0:=by omega
 have e2:m=0:=by omega
 have e3:nm=[]:=s3.resolve_right (by omega);have e4:v=zV:=s4.resolve_right (by omega);have e5:key=zK:=s5.resolve_right (by omega)
 have hl:kids.length=2:=by
  unfold Em at f3;rw [if_neg (by omega),if_neg (by omega),if_pos ⟨h9,yW⟩] at f3;have:=beq_iff_eq.1 f3;omega
 obtain ⟨a,b,rfl⟩:=hO hl;exact ⟨a,b,by rw [e1,e2,e3,e4,e5];rfl⟩
theorem ue {t:Tr} (h:bA t 1 0 0 [] (2,0,[]) (0,[],[])=true):t=En 2 0:=by
 obtain ⟨k,n,m,nm,⟨v1,v2,v3⟩,⟨y1,y2,y3⟩,kids⟩:=t;simp only [bA,We,Fj,Aay,beq_iff_eq] at h;obtain ⟨⟨⟨⟨⟨⟨rfl,rfl⟩,rfl⟩,rfl⟩,⟨rfl,rfl⟩,rfl⟩,⟨rfl,rfl⟩,rfl⟩,h⟩:=h;rw [Aaw.1 h];rfl
theorem FV {t:Tr} {w:List UInt8} {l d:Nat} (h1:TX t=w) (h2:LV t=l) (h8:l<=8) (h:RT w l d t):RB t d:=by
 refine ⟨?_,by omega,by omega⟩;rw [h1,h2];exact h
theorem mo {k:Int} (b:Bool) (hb:k=if b then 8 else 7) {d:Nat} {kids:List Tr} (hl:2<=kids.length/\kids.length<=8) (hk:∀ t ∈ kids,RR t d):RB (Bf k kids) (d+2):=by
 match kids,hl,hk with
 | a :: c :: r,hl,hk=>
  have h:=ub b (d:=d+1) (s:=EN (an a) (if b then 2 else 3)) (e:=a) (l:=(c :: r).map fun t=>(EN (an t) (if b then 2 else 3),t)) (by simp at hl |-;omega) (fun x hx=>by
   have key:∀ t ∈ a :: c :: r,RT (EN (an t) (if b then 2 else 3)) (if b then 2 else 3) (d+1) t:=fun t ht=>Tc (hk t ht).1 _ _ (by cases b <;> rfl) (by cases b <;> decide);rcases Ab7.1 hx with rfl | hx
   · exact key a (by simp)
   · obtain ⟨t,ht,rfl⟩:=List.mem_map.1 hx
     exact key t (List.mem_cons_of_mem _ ht))
  have e1:((c :: r).map fun t=>(EN (an t) (if b then 2 else 3),t)).map (·.2)=c :: r:=by rw [Aba];exact List.map_id' _
  have e2:((c :: r).map fun t=>(EN (an t) (if b then 2 else 3),t)).map (·.1)=(HP (c :: r)).map fun x=>EN x (if b then 2 else 3):=by
   rw [Aba,NC,Aba];rfl
  rw [e1,e2,<- uc] at h;have h:=h.le (Aaz _) (by omega:d+1<=d+2);cases b
  · have hb:k=7:=hb
    subst hb;exact FV (by rw [Bf,FT] <;> rfl) (by rw [Bf,FU] <;> rfl) (by decide) h
  · have hb:k=8:=hb
    subst hb;exact FV (by rw [Bf,FT] <;> rfl) (by rw [Bf,FU] <;> rfl) (by decide) h
set_option maxHeartbeats 2000000 in
theorem pX {k n m:Int} {nm:List UInt8} {v:Vl} {key:Ky} {kids:List Tr} {d:Nat} (h:Wi (.mk k n m nm v key kids)=0) (hk:∀ t ∈ kids,RR t d):RB (.mk k n m nm v key kids) (d+2):=by
 obtain ⟨f1,f2,f3,f4,f5,f6,f7,f8⟩:=nd0 h;obtain ⟨s1,s2,s3,s4,s5⟩:=sp0 f4;have K:∀ {t:Tr},t ∈ kids->∀ (least:Int) (l:Nat),least=l->l<=8->RT (EN (an t) least) l (d+1) t:=fun ht least l e1 e2=>Tc (hk _ ht).1 least l e1 e2;have fN:n=0\/k=4\/k=5\/k=15:=s1;unfold Em at f3;have hks:k=1\/k=2\/k=3\/k=4\/k=5\/k=6\/k=7\/k=8\/k=9\/k=10\/k=11\/k=12\/k=13\/k=14\/k=15:=by omega
 have z0:k≠4->k≠5->k≠15->n=0:=fun a b c=>by omega
 have z1:k≠4->m=0:=fun a=>s2.resolve_right a;have z2:k≠3->nm=[]:=fun a=>s3.resolve_right a;have z3:k≠1->v=zV:=fun a=>s4.resolve_right a;have z4:k≠2->key=zK:=fun a=>s5.resolve_right a;have lf:(if k=6 then (kids.length:Int) == 1 else if k=7\/k=8 then decide (2<=(kids.length:Int)) && decide ((kids.length:Int)<=8) else if 9<=k/\k<=13 then (kids.length:Int) == 2 else if k=14 then (kids.length:Int) == 3 else (kids.length:Int) == 0)=true:=f3;clear f3 s1 s2 s3 s4 s5 fN f4;rcases hks with rfl | rfl | rfl | rfl | rfl | rfl | rfl | rfl | rfl | rfl | rfl | rfl | rfl | rfl | rfl
 · have hl:kids=[]:=Aaw.1 (by simpa using lf)
   subst hl;obtain rfl:=z0 (by decide) (by decide) (by decide);obtain rfl:=z1 (by decide);obtain rfl:=z2 (by decide);obtain rfl:=z4 (by decide);obtain ⟨g1,g2⟩:=f8 rfl;have hv:gL v=7\/gL v=8:=by unfold gL;split <;> simp
   exact FV (l:=(gL v).toNat) (by rw [FT] <;> rfl) (by rw [FU];show gL v=_;omega) (by omega) (tS g1 g2)
 · have hl:kids=[]:=Aaw.1 (by simpa using lf)
   subst hl;obtain rfl:=z0 (by decide) (by decide) (by decide);obtain rfl:=z1 (by decide);obtain rfl:=z2 (by decide);obtain rfl:=z3 (by decide);obtain ⟨g1,g2⟩:=f7 rfl;have hr:1<=key.1/\key.1<=250:=by simpa [Fk] using f5
   exact FV (l:=8) (by rw [FT] <;> rfl) (by rw [FU] <;> rfl) (by omega) (pS hr.1 hr.2 g1 g2)
 · have hl:kids=[]:=Aaw.1 (by simpa using lf)
   subst hl;obtain rfl:=z0 (by decide) (by decide) (by decide);obtain rfl:=z1 (by decide);obtain rfl:=z3 (by decide);obtain rfl:=z4 (by decide);exact FV (l:=8) (by rw [FT] <;> rfl) (by rw [FU] <;> rfl) (by omega) (pT (f6 rfl))
 · have hl:kids=[]:=Aaw.1 (by simpa using lf)
   subst hl;obtain rfl:=z2 (by decide);obtain rfl:=z3 (by decide);obtain rfl:=z4 (by decide);have hr:0<=n/\n < 1440/\0<=m/\m < 1440:=by simpa [Fk] using f5
   have g:=pU (d:=d+2) (n:=n.toNat) (m:=m.toNat) (by omega) (by omega);rw [show ((n.toNat:Nat):Int)=n from by omega,show ((m.toNat:Nat):Int)=m from by omega] at g;exact FV (l:=8) (by rw [FT] <;> rfl) (by rw [FU] <;> rfl) (by omega) g
 · have hl:kids=[]:=Aaw.1 (by simpa using lf)
   subst hl;obtain rfl:=z1 (by decide);obtain rfl:=z2 (by decide);obtain rfl:=z3 (by decide);obtain rfl:=z4 (by decide);have hr:1<=n/\n<=127:=by simpa [Fk] using f5
   have g:=pW (d:=d+2) (m:=n.toNat) (by omega) (by omega);rw [show ((n.toNat:Nat):Int)=n from by omega] at g;exact FV (l:=8) (by rw [FT] <;> rfl) (by rw [FU] <;> rfl) (by omega) g
 · have hl:kids.length=1:=Ab0.1 (show (kids.length:Int)=((1:Nat):Int) from by simpa using lf)
   obtain ⟨a,rfl⟩:=Aao hl;obtain rfl:=z0 (by decide) (by decide) (by decide);obtain rfl:=z1 (by decide);obtain rfl:=z2 (by decide);obtain rfl:=z3 (by decide);obtain rfl:=z4 (by decide);have ha:=hk a (by simp);by_cases c9:Kb a=9
   · obtain ⟨x,y,rfl⟩:=mn ha.2.1 c9 (by decide) (by decide)
     have kx:RT (EN (an x) 5) 5 (d+1) x:=Tc (ha.2.2 x (by simp [EO,Bf])) 5 5 rfl (by decide);have ky:RT (EN (an y) 5) 5 (d+1) y:=Tc (ha.2.2 y (by simp [EO,Bf])) 5 5 rfl (by decide);have g:=Xp (k:=1) (op:=[33,61]) rfl (by decide) (ca (c:=33) (by decide)).lx kx ky;refine FV (l:=4) ?_ (by rw [FU] <;> rfl) (by omega) (g.le (Aaz _) (by omega));rw [FT,ud];show VA 9 (an (Bf 9 [x,y]))=_;unfold VA;rw [if_pos rfl,VB,show EO (Bf 9 [x,y])=[x,y] from rfl,Zq];rfl
   · by_cases c10:Kb a=10
     · obtain ⟨x,y,rfl⟩:=mn ha.2.1 c10 (by decide) (by decide)
       have kx:RT (EN (an x) 5) 5 (d+1) x:=Tc (ha.2.2 x (by simp [EO,Bf])) 5 5 rfl (by decide);have ky:RT (EN (an y) 5) 5 (d+1) y:=Tc (ha.2.2 y (by simp [EO,Bf])) 5 5 rfl (by decide);have g:=Xp (k:=5) (op:=[60,61]) rfl (by decide) (ca (c:=60) (by decide)).lx ky kx;refine FV (l:=4) ?_ (by rw [FU] <;> rfl) (by omega) (g.le (Aaz _) (by omega));rw [FT,ud];show VA 10 (an (Bf 10 [x,y]))=_;unfold VA;rw [if_neg (by decide),if_pos rfl,VB,show EO (Bf 10 [x,y])=[x,y] from rfl,Zq];rfl
     · have g:=tY (K (t:=a) (by simp) 3 3 rfl (by decide))
       refine FV (l:=3) ?_ ?_ (by omega) g
       · rw [FT,ud]
         show VA (Kb a) (an a)=_;unfold VA;rw [if_neg c9,if_neg c10]
       · rw [FU]
         show kY (Kb a)=_;unfold kY;rw [if_neg c9,if_neg c10];rfl
 · obtain rfl:=z0 (by decide) (by decide) (by decide);obtain rfl:=z1 (by decide);obtain rfl:=z2 (by decide);obtain rfl:=z3 (by decide);obtain rfl:=z4 (by decide)
   exact mo false rfl (by simp at lf;omega) hk
 · obtain rfl:=z0 (by decide) (by decide) (by decide);obtain rfl:=z1 (by decide);obtain rfl:=z2 (by decide);obtain rfl:=z3 (by decide);obtain rfl:=z4 (by decide)
   exact mo true rfl (by simp at lf;omega) hk
 · have hl:kids.length=2:=Ab0.1 (show (kids.length:Int)=((2:Nat):Int) from by simpa using lf)
   obtain ⟨a,b,rfl⟩:=hO hl;obtain rfl:=z0 (by decide) (by decide) (by decide);obtain rfl:=z1 (by decide);obtain rfl:=z2 (by decide);obtain rfl:=z3 (by decide);obtain rfl:=z4 (by decide);have g:=Xp (k:=0) (op:=[61,61]) rfl (by decide) (ca (c:=61) (by decide)).lx (K (t:=a) (by simp) 5 5 rfl (by decide)) (K (t:=b) (by simp) 5 5 rfl (by decide));exact FV (l:=4) (by rw [FT,Zq] <;> rfl) (by rw [FU] <;> rfl) (by omega) (g.le (Aaz _) (by omega))
 · have hl:kids.length=2:=Ab0.1 (show (kids.length:Int)=((2:Nat):Int) from by simpa using lf)
   obtain ⟨a,b,rfl⟩:=hO hl;obtain rfl:=z0 (by decide) (by decide) (by decide);obtain rfl:=z1 (by decide);obtain rfl:=z2 (by decide);obtain rfl:=z3 (by decide);obtain rfl:=z4 (by decide);have g:=Xp (k:=2) (op:=[60]) rfl (by decide) (rF (c:=60) (by decide)) (K (t:=a) (by simp) 5 5 rfl (by decide)) (K (t:=b) (by simp) 5 5 rfl (by decide));exact FV (l:=4) (by rw [FT,Zq] <;> rfl) (by rw [FU] <;> rfl) (by omega) (g.le (Aaz _) (by omega))
 · have hl:kids.length=2:=Ab0.1 (show (kids.length:Int)=((2:Nat):Int) from by simpa using lf)
   obtain ⟨a,b,rfl⟩:=hO hl;obtain rfl:=z0 (by decide) (by decide) (by decide);obtain rfl:=z1 (by decide);obtain rfl:=z2 (by decide);obtain rfl:=z3 (by decide);obtain rfl:=z4 (by decide);have g:=tV (K (t:=a) (by simp) 5 5 rfl (by decide)) (K (t:=b) (by simp) 6 6 rfl (by decide));exact FV (l:=5) (by rw [FT,Zq] <;> rfl) (by rw [FU] <;> rfl) (by omega) (g.le (Aaz _) (by omega))
 · have hl:kids.length=2:=Ab0.1 (show (kids.length:Int)=((2:Nat):Int) from by simpa using lf)
   obtain ⟨a,b,rfl⟩:=hO hl;obtain rfl:=z0 (by decide) (by decide) (by decide);obtain rfl:=z1 (by decide);obtain rfl:=z2 (by decide);obtain rfl:=z3 (by decide);obtain rfl:=z4 (by decide);by_cases c:gM [a,b]=true
   · have c':(bA a 1 0 0 [] (2,0,[]) (0,[],[]) && (Kb b != 1))=true:=c
     rw [Aay,bne_iff_ne] at c';obtain rfl:=ue c'.1;have g:=tZ (K (t:=b) (by simp) 7 7 rfl (by decide)) c'.2;refine FV (l:=7) ?_ ?_ (by omega) g
     · rw [FT,Zq]
       show (if gM [En 2 0,b]=true then cat [45] (EN (an b) 7) else _)=_;rw [if_pos c]
     · rw [FU]
       show (if gM [En 2 0,b]=true then (7:Int) else 5)=_;rw [if_pos c];rfl
   · have g:=tW (K (t:=a) (by simp) 5 5 rfl (by decide)) (K (t:=b) (by simp) 6 6 rfl (by decide))
     refine FV (l:=5) ?_ ?_ (by omega) (g.le (Aaz _) (by omega))
     · rw [FT,Zq]
       show (if gM [a,b]=true then _ else NA (an a) 5 [45] (an b) 6)=_;rw [if_neg c];rfl
     · rw [FU]
       show (if gM [a,b]=true then (7:Int) else 5)=_;rw [if_neg c];rfl
 · have hl:kids.length=2:=Ab0.1 (show (kids.length:Int)=((2:Nat):Int) from by simpa using lf)
   obtain ⟨a,b,rfl⟩:=hO hl;obtain rfl:=z0 (by decide) (by decide) (by decide);obtain rfl:=z1 (by decide);obtain rfl:=z2 (by decide);obtain rfl:=z3 (by decide);obtain rfl:=z4 (by decide);have g:=tX (K (t:=a) (by simp) 6 6 rfl (by decide)) (K (t:=b) (by simp) 7 7 rfl (by decide));exact FV (l:=6) (by rw [FT,Zq] <;> rfl) (by rw [FU] <;> rfl) (by omega) (g.le (Aaz _) (by omega))
 · have hl:kids.length=3:=Ab0.1 (show (kids.length:Int)=((3:Nat):Int) from by simpa using lf)
   obtain ⟨a,b,c,rfl⟩:=Aap hl;obtain rfl:=z0 (by decide) (by decide) (by decide);obtain rfl:=z1 (by decide);obtain rfl:=z2 (by decide);obtain rfl:=z3 (by decide);obtain rfl:=z4 (by decide);have g:=yh (K (t:=a) (by simp) 0 0 rfl (by decide)) (K (t:=b) (by simp) 0 0 rfl (by decide)) (K (t:=c) (by simp) 0 0 rfl (by decide));exact FV (l:=0) (by rw [FT,Aaq] <;> rfl) (by rw [FU] <;> rfl) (by omega) g
 · have hl:kids=[]:=Aaw.1 (by simpa using lf)
   subst hl;obtain rfl:=z1 (by decide);obtain rfl:=z2 (by decide);obtain rfl:=z3 (by decide);obtain rfl:=z4 (by decide);have hr:0<=n/\n<=4:=by simpa [Fk] using f5
   have g:=pV (d:=d+2) (n:=n.toNat) (by omega);rw [show ((n.toNat:Nat):Int)=n from by omega] at g;exact FV (l:=8) (by rw [FT] <;> rfl) (by rw [FU] <;> rfl) (by omega) g
mutual
theorem yi (t:Tr) (lv c:Int) (d:Nat) (h:(ZW t lv c).2=0) (hd:50<=2 * lv+d):RR t d:=by
 match t with
 | .mk k n m nm v key kids=>
  unfold ZW at h;split at h
  · simp at h
  · split at h
    · simp at h
    · split at h
      · rename_i hn;exact absurd h hn
      · rename_i hn
        obtain ⟨d',rfl⟩:∃ x,d=x+2:=⟨d - 2,by omega⟩;have hk:=rH kids _ _ d' h (by omega);have hn:Wi (.mk k n m nm v key kids)=0:=by omega
        exact ⟨pX hn hk,hn,fun g hg=>(hk g hg).1.mono (by omega)⟩
theorem rH (l:List Tr) (lv c:Int) (d:Nat) (h:(RA l lv c).2=0) (hd:50<=2 * lv+d):∀ t ∈ l,RR t d:=by
 match l with
 | []=>intro t ht;cases ht
 | t :: r=>
  unfold RA at h;split at h
  · rename_i hn;exact absurd h hn
  · rename_i hn
    intro x hx;rcases Ab7.1 hx with e | hx
    · rw [e];exact yi t lv c d (by omega) hd
    · exact rH r lv _ d h hd x hx
end
theorem yj {t:Tr} (h:Mz t=0):RB t 50:=(yi t 1 0 50 h (by omega)).1
def mq (L:List Tk) (P:NT->Nat->Nat->PR Tr):NT->Nat->Nat->PR Tr
 | .expr,o,i=>if Bs L 1 [105,102] i then
  (if o < 100 then (P .expr (o+1) (i+1)).bind fun c i=>(Bt L 1 [116,104,101,110] i).bind fun _ i=>(P .expr (o+1) i).bind fun a i=>(Bt L 1 [101,108,115,101] i).bind fun _ i=>(P .expr (o+1) i).bind fun b i=>.ok (Bf 14 [c,a,b]) i
  else .bad (atT L i) 22) else P (.chain true) o i
 | .chain b,o,i=>(P (Er b) o i).bind fun a i=>P (.chainL b [a]) o i
 | .chainL b acc,o,i=>if Bs L 1 (Nb b) i then (if acc.length=8 then .bad (atT L i) 3 else (P (Er b) o (i+1)).bind fun a i=>P (.chainL b (acc++[a])) o i) else .ok (jV b acc) i
 | .not,o,i=>if Bs L 1 [110,111,116] i then (if o < 100 then (P .not (o+1) (i+1)).bind fun e i=>.ok (Bf 6 [e]) i else .bad (atT L i) 22) else P .cmp o i
 | .cmp,o,i=>(P .sum o i).bind fun a i=>match C0 L 4 i GG 0 with
  | some k=>(P .sum o (i+1)).bind fun b i=>.ok (Qa k a b) i
  | none=>.ok a i
 | .sum,o,i=>(P .prod o i).bind fun e i=>P (.sumL e) o i
 | .sumL e,o,i=>if Bs L 4 [43] i then (P .prod o (i+1)).bind fun f i=>P (.sumL (Bf 11 [e,f])) o i else
  if Bs L 4 [45] i then (P .prod o (i+1)).bind fun f i=>P (.sumL (Bf 12 [e,f])) o i else .ok e i
 | .prod,o,i=>(P .un o i).bind fun e i=>P (.prodL e) o i
 | .prodL e,o,i=>if Bs L 4 [42] i then (P .un o (i+1)).bind fun f i=>P (.prodL (Bf 13 [e,f])) o i else .ok e i
 | .un,o,i=>if Bs L 4 [45] i then
  (if Cz L (i+1) then .ok (En 2 (-(amtN (tokAt L (i+1)).2.1 0:Int))) (i+2) else
  if o < 100 then (P .un (o+1) (i+1)).bind fun e i=>.ok (Bf 12 [En 2 0,e]) i else .bad (atT L i) 22) else P .prim o i
 | .prim,o,i=>if Cz L i then .ok (En 2 (amtN (tokAt L i).2.1 0:Int)) (i+1) else
  if (tokAt L i).1=2 then (Ea L i).bind fun k i=>.ok (.mk 2 0 0 [] zV k []) i else
  if (tokAt L i).1=3 then .ok (.mk 1 0 0 [] (4,0,(tokAt L i).2.1) zK []) (i+1) else
  if Bs L 4 [35] i then (Hu L 0 63 (i+1)).bind fun n i=>.ok (En 3 n) i else
  if Bs L 4 [40] i then (if o < 100 then (P .expr (o+1) (i+1)).bind fun e i=>(Bt L 4 [41] i).bind fun _ i=>.ok e i else .bad (atT L i) 22) else Fp L i
theorem uf (L:List Tk) (n:Nat):∀ (nt:NT) (o i:Nat),pz L (n+1) nt o i=mq L (pz L n) nt o i:=fun nt o i=>by cases nt <;> rfl
theorem Dl {α β:Type} {x x':PR α} {f f':α->Nat->PR β} (h:x.bind f≠.out) (hx:x≠.out->x'=x) (hf:∀ a i,f a i≠.out->f' a i=f a i):x'.bind f'=x.bind f:=by
 cases x with
 | ok a i=>rw [hx (fun e=>nomatch e)];exact hf a i h
 | bad t e=>rw [hx (fun e=>nomatch e)];rfl
 | out=>exact absurd rfl h
theorem ug {L:List Tk} {P Q:NT->Nat->Nat->PR Tr} (U:∀ nt o i,P nt o i≠.out->Q nt o i=P nt o i):∀ (nt:NT) (o i:Nat),mq L P nt o i≠.out->mq L Q nt o i=mq L P nt o i:=fun nt o i h=>by
 have K:∀ {α:Type} {x:PR α},x≠.out->x=x:=fun _=>rfl;have R:∀ {α β:Type} (f:α->Nat->PR β) (a:α) (i:Nat),f a i≠.out->f a i=f a i:=fun _ _ _ _=>rfl;cases nt with
 | expr=>
  dsimp only [mq] at h |-;by_cases c:Bs L 1 [105,102] i=true
  · rw [if_pos c] at h |-
    rw [if_pos c];by_cases d:o < 100
    · rw [if_pos d] at h |-
      rw [if_pos d];exact Dl h (U _ _ _) fun a i h=>Dl h (fun _=>rfl) fun _ i h=>Dl h (U _ _ _) fun b i h=>Dl h (fun _=>rfl) fun _ i h=>Dl h (U _ _ _) (R _)
    · rw [if_neg d,if_neg d]
  · rw [if_neg c] at h |-
    rw [if_neg c];exact U _ _ _ h
 | chain b=>exact Dl h (U _ _ _) fun a i h=>U _ _ _ h
 | chainL b acc=>
  dsimp only [mq] at h |-;by_cases c:Bs L 1 (Nb b) i=true
  · rw [if_pos c] at h |-
    rw [if_pos c];by_cases d:acc.length=8
    · rw [if_pos d,if_pos d]
    · rw [if_neg d] at h |-
      rw [if_neg d];exact Dl h (U _ _ _) fun a i h=>U _ _ _ h
  · rw [if_neg c,if_neg c]
 | not=>
  dsimp only [mq] at h |-;by_cases c:Bs L 1 [110,111,116] i=true
  · rw [if_pos c] at h |-
    rw [if_pos c];by_cases d:o < 100
    · rw [if_pos d] at h |-
      rw [if_pos d];exact Dl h (U _ _ _) (R _)
    · rw [if_neg d,if_neg d]
  · rw [if_neg c] at h |-
    rw [if_neg c];exact U _ _ _ h
 | cmp=>
  refine Dl h (U _ _ _) fun a i h=>?_;cases c:C0 L 4 i GG 0 with
  | none=>rfl
  | some k=>
   rw [c] at h;exact Dl h (U _ _ _) (R _)
 | sum=>exact Dl h (U _ _ _) fun a i h=>U _ _ _ h
 | sumL e=>
  dsimp only [mq] at h |-;by_cases c:Bs L 4 [43] i=true
  · rw [if_pos c] at h |-
    rw [if_pos c];exact Dl h (U _ _ _) fun a i h=>U _ _ _ h
  · rw [if_neg c] at h |-
    rw [if_neg c];by_cases d:Bs L 4 [45] i=true
    · rw [if_pos d] at h |-
      rw [if_pos d];exact Dl h (U _ _ _) fun a i h=>U _ _ _ h
    · rw [if_neg d,if_neg d]
 | prod=>exact Dl h (U _ _ _) fun a i h=>U _ _ _ h
 | prodL e=>
  dsimp only [mq] at h |-;by_cases c:Bs L 4 [42] i=true
  · rw [if_pos c] at h |-
    rw [if_pos c];exact Dl h (U _ _ _) fun a i h=>U _ _ _ h
  · rw [if_neg c,if_neg c]
 | un=>
  dsimp only [mq] at h |-;by_cases c:Bs L 4 [45] i=true
  · rw [if_pos c] at h |-
    rw [if_pos c];by_cases d:Cz L (i+1)=true
    · rw [if_pos d,if_pos d]
    · rw [if_neg d] at h |-
      rw [if_neg d];by_cases d:o < 100
      · rw [if_pos d] at h |-
        rw [if_pos d];exact Dl h (U _ _ _) (R _)
      · rw [if_neg d,if_neg d]
  · rw [if_neg c] at h |-
    rw [if_neg c];exact U _ _ _ h
 | prim=>
  dsimp only [mq] at h |-;by_cases c1:Cz L i=true
  · rw [if_pos c1,if_pos c1]
  rw [if_neg c1] at h |-;rw [if_neg c1];by_cases c2:(tokAt L i).1=2
  · rw [if_pos c2,if_pos c2]
  rw [if_neg c2] at h |-;rw [if_neg c2];by_cases c3:(tokAt L i).1=3
  · rw [if_pos c3,if_pos c3]
  rw [if_neg c3] at h |-;rw [if_neg c3];by_cases c4:Bs L 4 [35] i=true
  · rw [if_pos c4,if_pos c4]
  rw [if_neg c4] at h |-;rw [if_neg c4];by_cases c5:Bs L 4 [40] i=true
  · rw [if_pos c5] at h |-
    rw [if_pos c5];by_cases d:o < 100
    · rw [if_pos d] at h |-
      rw [if_pos d];exact Dl h (U _ _ _) (R _)
    · rw [if_neg d,if_neg d]
  · rw [if_neg c5,if_neg c5]
theorem rI {L:List Tk}:∀ (n:Nat) (nt:NT) (o i:Nat),pz L n nt o i≠.out->pz L (n+1) nt o i=pz L n nt o i
 | 0,_,_,_,h=>absurd rfl h
 | n+1,nt,o,i,h=>by
  rw [uf L n] at h;rw [uf L (n+1),uf L n];exact ug (fun nt o i h=>rI n nt o i h) nt o i h
theorem rJ {L:List Tk} {n:Nat} {nt:NT} {o i:Nat} (h:pz L n nt o i≠.out):∀ k,pz L (n+k) nt o i=pz L n nt o i
 | 0=>rfl
 | k+1=>by
  have ih:=rJ h k;rw [<- Nat.add_assoc,rI (n+k) nt o i (by rw [ih];exact h),ih]
theorem yk {L:List Tk} (hT:TokOK L) {i j:Nat} {e:Tr} (hi:i < L.length) (h:Rd L .expr 0 i e j):pz L (bF L) .expr 0 i=.ok e j:=by
 obtain ⟨m,h⟩:=h;have ho:=kR hT (bF L) .expr 0 i hi (by show 12 * (L.length - i)+10<=12 * L.length+10;omega);have h1:=rJ ho m;rw [<- h1];exact h _ (by omega)
def O2 (k:Ky):List KT:=[(2,Aax k.1),(4,[46]),(1,k.2.1),(4,[46]),(1,k.2.2)]
theorem eB {n:Int} {a b:List UInt8} (h:Xf n a b=0):(1<=n/\n<=250)/\B8 a=true/\B8 b=true:=by
 unfold Xf at h;cases c:ZY n with
 | false=>rw [c] at h;cases h
 | true=>
  have c:=of_decide_eq_true c;refine ⟨c,?_⟩;cases x:B8 a with
  | false=>rw [x] at h;simp [ZY,c] at h
  | true=>
   cases y:B8 b with
   | false=>rw [x,y] at h;simp [ZY,c] at h
   | true=>exact ⟨rfl,rfl⟩
theorem NP {L:List Tk} {i:Nat} {r:List KT} {k:Ky} (Bv:Dn L i (O2 k++r)) (h:(1<=k.1/\k.1<=250)/\B8 k.2.1=true/\B8 k.2.2=true):Ea L i=.ok k (i+5):=by
 obtain ⟨n,x,y⟩:=k;obtain ⟨⟨h1,h2⟩,hx,hy⟩:=h;simp only at h1 h2 hx hy;have e3:=(JD (n:=n) (by omega)).2;have a0:Dn L i ((2,Aax n) :: (4,[46]) :: (1,x) :: (4,[46]) :: (1,y) :: r):=Bv;have a1:=A9 a0;have a2:=A9 a1;have a3:=A9 a2;have a4:=A9 a3;unfold Ea;rw [OZ a0 (by omega) (by omega),A2,CH a1,A2,GQ a2 hx,A2,CH a3,A2,GQ a4 hy,A2,e3]
theorem QT {k:Ky} (h:(1<=k.1/\k.1<=250)/\B8 k.2.1=true/\B8 k.2.2=true):Lx (E3 k.1 k.2.1 k.2.2) (O2 k):=by
 obtain ⟨n,x,y⟩:=k;obtain ⟨⟨h1,h2⟩,hx,hy⟩:=h;simp only at h1 h2 hx hy;obtain ⟨e2,e3⟩:=JD (n:=n) (by omega);have ht:E3 n x y=Aax n++([46]++(x++([46]++y))):=by unfold E3 cat;simp
 show Lx (E3 n x y) _;rw [ht];exact Da (JA e2) (Ef (FR (c:=46) (by decide)) (Da (CG (FC hx)) (Ef (FR (c:=46) (by decide)) (CG (FC hy))) rfl)) rfl
def RTg (w:List UInt8) (t:Tg):Prop:=∃ ts,Lx w ts/\∀ (L:List Tk) (i:Nat) (r:List KT),Dn L i (ts++(4,[59]) :: r)->BQ L i=.ok t (i+ts.length)
theorem ts0 {t:Tg} (h:lB t=false):(t.key=zK\/t.k=1)/\(t.ev=zK\/t.k=2)/\(t.nm=[]\/t.k=4)/\(t.n=0\/t.k=3\/t.k=6)/\(t.m=0\/t.k=3):=by
 obtain ⟨k,⟨d,c,a⟩,⟨d',c',a'⟩,nm,n,m⟩:=t;simp only [lB,tsB,Fj,Abd,Abb,Abe,Abi,Aay,beq_iff_eq,bne_eq_false_iff_eq] at h;obtain ⟨⟨⟨⟨h1,h2⟩,h3⟩,h4⟩,h5⟩:=h;refine ⟨?_,?_,h3,h4,h5⟩
 · rcases h1 with ⟨⟨rfl,rfl⟩,rfl⟩ | h
   · exact .inl rfl
   · exact .inr h
 · rcases h2 with ⟨⟨rfl,rfl⟩,rfl⟩ | h
   · exact .inl rfl
   · exact .inr h
theorem yl {t:Tg} (h:VC t=0):RTg (To t) t:=by
 have hk:1<=t.k/\t.k<=6/\lB t=false:=by
  unfold VC at h;by_cases c:t.k < 1\/6 < t.k
  · rw [if_pos c] at h;cases h
  · rw [if_neg c] at h
    cases x:lB t with
    | true=>rw [x,if_pos rfl] at h;cases h
    | false=>exact ⟨by omega,by omega,rfl⟩
 obtain ⟨k1,k6,hs⟩:=hk;have z:=ts0 hs;unfold VC at h;rw [if_neg (by omega),hs,if_neg (by decide)] at h;clear hs;obtain ⟨k,key,ev,nm,n,m⟩:=t;simp only at h z k1 k6;obtain ⟨z1,z2,z3,z4,z5⟩:=z;have hk:k=1\/k=2\/k=3\/k=4\/k=5\/k=6:=by omega
 rcases hk with rfl | rfl | rfl | rfl | rfl | rfl
 · obtain rfl:=z2.resolve_right (by decide);obtain rfl:=z3.resolve_right (by decide);obtain rfl:=z4.resolve_right (by decide);obtain rfl:=z5.resolve_right (by decide)
   have hv:=eB (by rw [if_pos rfl] at h;exact h);refine ⟨(1,[99,104,97,110,103,101]) :: O2 key,B9 (w:=[99,104,97,110,103,101]) (by decide) (QT hv),fun L i r Bv=>?_⟩;have h0:Dn L i ((1,[99,104,97,110,103,101]) :: (O2 key++(4,[59]) :: r)):=Bv;unfold BQ;rw [CT h0,if_pos rfl,NP (A9 h0) hv,A2];rfl
 · obtain rfl:=z1.resolve_right (by decide);obtain rfl:=z3.resolve_right (by decide);obtain rfl:=z4.resolve_right (by decide);obtain rfl:=z5.resolve_right (by decide)
   have hv:=eB (by rw [if_neg (by decide),if_pos rfl] at h;exact h);refine ⟨(1,[101,118,101,110,116]) :: O2 ev,B9 (w:=[101,118,101,110,116]) (by decide) (QT hv),fun L i r Bv=>?_⟩;have h0:Dn L i ((1,[101,118,101,110,116]) :: (O2 ev++(4,[59]) :: r)):=Bv;unfold BQ;rw [A3 h0,A3 h0,if_neg (by decide),if_pos (by decide),NP (A9 h0) hv,A2];rfl
 · obtain rfl:=z1.resolve_right (by decide);obtain rfl:=z2.resolve_right (by decide);obtain rfl:=z3.resolve_right (by decide)
   have hr:0<=n/\n < 1440/\1<=m/\m<=127:=by
    rw [if_neg (by decide),if_neg (by decide),if_pos rfl] at h;by_cases c:0<=n/\n < 1440/\1<=m/\m<=127
    · exact c
    · rw [if_neg c] at h;cases h
   have en:((n.toNat:Nat):Int)=n:=by omega
   by_cases c:m=127
   · subst c
     have e:To ⟨3,zK,zK,[],n,127⟩=[116,105,109,101]++32 :: FL n.toNat:=rfl;rw [e];refine ⟨(1,[116,105,109,101]) :: UB n.toNat,B9 (by decide) (Xo (by omega)),fun L i r Bv=>?_⟩;have h0:Dn L i ((1,[116,105,109,101]) :: (UB n.toNat++(4,[59]) :: r)):=Bv;have h1:=A9 h0;have h2:Dn L (i+1+3) ((4,[59]) :: r):=BN h1;have hd:Bs L 1 [100,97,121,115] (i+1+3)=false:=by rw [Gb h2];rfl
     unfold BQ;rw [A3 h0,A3 h0,A3 h0,if_neg (by decide),if_neg (by decide),if_pos (by decide),Xm h1 (by omega),A2,hd,if_neg (by decide),en];rfl
   · have e:To ⟨3,zK,zK,[],n,m⟩=[116,105,109,101]++32 :: (FL n.toNat++32 :: ([100,97,121,115]++32 :: W0 m.toNat bK)):=by
      show (if m=127 then _ else cat (cat (cat [116,105,109,101,32] (FL n.toNat)) [32]) (Ql m.toNat))=_;rw [if_neg c];unfold cat Ql;simp
     rw [e];have em:((m.toNat:Nat):Int)=m:=by omega
     refine ⟨(1,[116,105,109,101]) :: (UB n.toNat++(1,[100,97,121,115]) :: O0 m.toNat Cy),B9 (by decide) (Da (Xo (by omega)) (IZ (B9 (by decide) (QQ bK m.toNat (by decide) (by omega) (by show m.toNat < 128;omega)))) rfl),fun L i r Bv=>?_⟩;have h0:Dn L i ((1,[116,105,109,101]) :: (UB n.toNat++((1,[100,97,121,115]) :: (O0 m.toNat Cy++(4,[59]) :: r)))):=by simpa using Bv
     have h1:=A9 h0;have h2:Dn L (i+1+3) _:=BN h1;have h3:=A9 h2;have hu:=Zo ⟨m.toNat,by omega⟩;simp only at hu;have h4:=QR Cy 0 m.toNat 0 (L.length+1) (i+1+3+1) _ Zp (by omega) (by show m.toNat < 128;omega) (by have:=ez h3;omega) h3 (by decide:LG (4,[59]) < 8);rw [hu] at h4;unfold BQ KC;rw [A3 h0,A3 h0,A3 h0,if_neg (by decide),if_neg (by decide),if_pos (by decide),Xm h1 (by omega),A2,CT h2,if_pos rfl,h4,A2,en,em];exact GH (by simp only [Aau,Aav];show _=i+(3+_+1);omega)
 · obtain rfl:=z1.resolve_right (by decide);obtain rfl:=z2.resolve_right (by decide);obtain rfl:=z4.resolve_right (by decide);obtain rfl:=z5.resolve_right (by decide)
   rw [if_neg (by decide),if_neg (by decide),if_neg (by decide),if_pos rfl] at h;by_cases c:nm=[]
   · subst c
     refine ⟨[(1,[109,111,100,101])],CG (w:=[109,111,100,101]) (by decide),fun L i r Bv=>?_⟩;have h0:Dn L i ((1,[109,111,100,101]) :: (4,[59]) :: r):=Bv;have hk:(tokAt L (i+1)).1=4:=EP (A9 h0);unfold BQ;rw [A3 h0,A3 h0,A3 h0,A3 h0,if_neg (by decide),if_neg (by decide),if_neg (by decide),if_pos (by decide),if_neg (by omega)];rfl
   · have hv:B8 nm=true:=by
      by_cases x:nm=[]\/B8 nm=true
      · exact x.resolve_left c
      · rw [if_neg x] at h;cases h
     have e:To ⟨4,zK,zK,nm,0,0⟩=[109,111,100,101]++32 :: nm:=by
      show (if nm=[] then _ else cat [109,111,100,101,32] nm)=_;rw [if_neg c];rfl
     rw [e];refine ⟨[(1,[109,111,100,101]),(1,nm)],B9 (by decide) (CG (FC hv)),fun L i r Bv=>?_⟩;have h0:Dn L i ((1,[109,111,100,101]) :: (1,nm) :: (4,[59]) :: r):=Bv;have hk:(tokAt L (i+1)).1=1:=EP (A9 h0);unfold BQ;rw [A3 h0,A3 h0,A3 h0,A3 h0,if_neg (by decide),if_neg (by decide),if_neg (by decide),if_pos (by decide),if_pos hk,GQ (A9 h0) hv,A2];rfl
 · obtain rfl:=z1.resolve_right (by decide);obtain rfl:=z2.resolve_right (by decide);obtain rfl:=z3.resolve_right (by decide);obtain rfl:=z4.resolve_right (by decide);obtain rfl:=z5.resolve_right (by decide)
   refine ⟨[(1,[115,116,97,114,116])],CG (w:=[115,116,97,114,116]) (by decide),fun L i r Bv=>?_⟩;have h0:Dn L i ((1,[115,116,97,114,116]) :: (4,[59]) :: r):=Bv;unfold BQ;rw [A3 h0,A3 h0,A3 h0,A3 h0,A3 h0,if_neg (by decide),if_neg (by decide),if_neg (by decide),if_neg (by decide),if_pos (by decide)];rfl
 · obtain rfl:=z1.resolve_right (by decide);obtain rfl:=z2.resolve_right (by decide);obtain rfl:=z3.resolve_right (by decide);obtain rfl:=z5.resolve_right (by decide)
   have hr:0<=n/\n<=1099511627776:=by
    rw [if_neg (by decide),if_neg (by decide),if_neg (by decide),if_neg (by decide),if_pos rfl] at h;by_cases c:0<=n/\n<=1099511627776
    · exact c
    · rw [if_neg c] at h;cases h
   obtain ⟨e2,e3⟩:=JD hr.1;refine ⟨[(1,[104,111,108,100]),(2,Aax n)],B9 (w:=[104,111,108,100]) (by decide) (JA e2),fun L i r Bv=>?_⟩;have h0:Dn L i ((1,[104,111,108,100]) :: (2,Aax n) :: (4,[59]) :: r):=Bv;unfold BQ;rw [A3 h0,A3 h0,A3 h0,A3 h0,A3 h0,if_neg (by decide),if_neg (by decide),if_neg (by decide),if_neg (by decide),if_neg (by decide),CH h0,A2,OZ (A9 h0) (Ab5 _) (by omega),A2,e3];rfl
end Go.HH
