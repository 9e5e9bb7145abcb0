/-
  What the law needs, packed: T7 T8 T9 T10 E11 E12 E13 E14 E15 E16 E17.
-/
import Derived.Test.YthjcaihemgllaaaGreatDoorK45
open List renaming getElem?_concat_length->Aau,length_cons->Aaw,length_nil->Aay,cons_append->Ab4,drop_eq_getElem_cons->Ab5,getElem?_eq_getElem->Ab6,drop_eq_nil_of_le->Ab7,nil_append->Ab8,getElem?_map->Abc,length_map->Abe,append_nil->Abf,length_singleton->Abg,length_append->Abk,append_assoc->Abl,getElem_mem->Abm,all_eq_true->Abn,drop_zero->Abo,mem_cons->Abp,map_cons->Abq,all_cons->Abr,all_nil->Abt
open Option renaming getD->Aav
open Int renaming reduceEq->Aax
open Bool renaming false_and->Aaz,and_self->Abd,and_eq_true->Abh,true_and->Abi,and_true->Abs
open Go.Proofs.Tryz renaming f9->Ab0,f32->Ab1,f11->Ab2,f113->Ab9,f58->Aba,f37->Abb
open Nat renaming le_of_ble_eq_true->Ab3
open Go.Code renaming loop->Abj
namespace Go.HH
open Go Go.Proofs
set_option maxRecDepth 100000
set_option maxHeartbeats 4000000
set_option linter.unusedSimpArgs false
set_option linter.unusedVariables false
theorem Xa (n m:Int) (nm:List UInt8) (v:Vl) (key:Ky) (kids:List Tr) (hv:Em 14 kids.length=true) (hk:∀ t ∈ kids,NF t/\(TX t).length<=200000):∃ bx,Ad CC 37 [Bw (.mk 14 n m nm v key kids)] []=some (.ret (.tup [.str (TX (.mk 14 n m nm v key kids)),.int .i64 (LV (.mk 14 n m nm v key kids))]),bx):=by
 obtain ⟨a,c,d,rfl⟩:=Y4 hv;have e1:TX (.mk 14 n m nm v key [a,c,d])=cat (cat (cat (cat (cat [105,102,32] (EN (an a) 0)) [32,116,104,101,110,32]) (EN (an c) 0)) [32,101,108,115,101,32]) (EN (an d) 0):=by rw [FP];unfold Ll;simp only [Aax,if_true,if_false];try rfl
 have e2:LV (.mk 14 n m nm v key [a,c,d])=0:=by rw [Ho];unfold W3;simp only [Aax,if_true,if_false];try rfl
 rw [e1,e2];have o1:=Ie a (hk a (by simp)).1 (hk a (by simp)).2 0;have o2:=Ie c (hk c (by simp)).1 (hk c (by simp)).2 0;have o3:=Ie d (hk d (by simp)).1 (hk d (by simp)).2 0;have l1:=Dk (an a) 0;have l2:=Dk (an c) 0;have l3:=Dk (an d) 0;have m1:(an a).s.length<=200000:=(hk a (by simp)).2;have m2:(an c).s.length<=200000:=(hk c (by simp)).2;have m3:(an d).s.length<=200000:=(hk d (by simp)).2;clear e1 e2 hk;generalize EN (an a) 0=s1 at *;generalize EN (an c) 0=s2 at *;generalize EN (an d) 0=s3 at *;have c1:=Cq (a:=[105,102,32]) (b:=s1) (by simp only [Aaw,Aay];omega);have c2:=Cq (a:=cat [105,102,32] s1) (b:=[32,116,104,101,110,32]) (by simp only [AD,Aaw,Aay];omega);have c3:=Cq (a:=cat (cat [105,102,32] s1) [32,116,104,101,110,32]) (b:=s2) (by simp only [AD,Aaw,Aay];omega);have c4:=Cq (a:=cat (cat (cat [105,102,32] s1) [32,116,104,101,110,32]) s2) (b:=[32,101,108,115,101,32]) (by simp only [AD,Aaw,Aay];omega);have c5:=Cq (a:=cat (cat (cat (cat [105,102,32] s1) [32,116,104,101,110,32]) s2) [32,101,108,115,101,32]) (b:=s3) (by simp only [AD,Aaw,Aay];omega);clear l1 l2 l3 m1 m2 m3;obtain ⟨ak,an,am,anm,av,akey,akids⟩:=a;obtain ⟨ck,cn,cm,cnm,cv,ckey,ckids⟩:=c;obtain ⟨dk,dn,dm,dnm,dv,dkey,dkids⟩:=d;simp only [Bw,A1] at o1 o2 o3 |-;have q1:=AW akids;have q2:=AW ckids
 have q3:=AW dkids;generalize A1 akids=xs at *;generalize A1 ckids=ys at *;generalize A1 dkids=zs at *;rw [Bc rfl];rw [<- Al];rw [<- AI] at o1 o2 o3;simp only [Aa,Ac,Abb,Aav];simp only [S9,Af,seval,HY,Pu,Aau,o1,o2,o3,c1,c2,c3,c4,c5,q1,q2,q3];exact ⟨_,rfl⟩
theorem Y9 (n m:Int) (nm:List UInt8) (v:Vl) (key:Ky) (kids:List Tr) (a:Tr) (rY:kids=[a]) (hng:NGc a):∃ bx,Ad CC 37 [Bw (.mk 6 n m nm v key kids)] []=some (.ret (.tup [.str (TX (.mk 6 n m nm v key kids)),.int .i64 (LV (.mk 6 n m nm v key kids))]),bx):=by
 subst rY;have e1:TX (.mk 6 n m nm v key [a])=VA (Kb a) (an a):=by rw [FP];unfold Ll;simp only [Aax,if_true,if_false];try rfl
 have e2:LV (.mk 6 n m nm v key [a])=kY (Kb a):=by rw [Ho];unfold W3;simp only [Aax,if_true,if_false];try rfl
 rw [e1,e2];have o1:=hng;unfold NGc at o1;clear e1 e2 hng;generalize VA (Kb a) (an a)=s at *;generalize kY (Kb a)=lv at *;obtain ⟨ak,an,am,anm,av,akey,akids⟩:=a;simp only [Bw,A1] at o1 |-;have q1:=AW akids;generalize A1 akids=xs at *;rw [Bc rfl];rw [<- Al];rw [<- AI] at o1;simp only [Aa,Ac,Abb,Aav];simp only [S9,Af,seval,HY,Pu,Aau,o1,q1];exact ⟨_,rfl⟩
theorem Xb (n m:Int) (nm:List UInt8) (v:Vl) (key:Ky) (kids:List Tr) (hv:Em 12 kids.length=true) (hk:∀ t ∈ kids,NF t/\(TX t).length<=200000):∃ bx,Ad CC 37 [Bw (.mk 12 n m nm v key kids)] []=some (.ret (.tup [.str (TX (.mk 12 n m nm v key kids)),.int .i64 (LV (.mk 12 n m nm v key kids))]),bx):=by
 obtain ⟨a,c,rfl⟩:=Fz (k:=12) (by omega) hv;have e1:TX (.mk 12 n m nm v key [a,c])=(if gM [a,c] then cat [45] (EN (an c) 7) else NA (an a) 5 [45] (an c) 6):=by rw [FP];unfold Ll;simp only [Aax,if_true,if_false];try rfl
 have e2:LV (.mk 12 n m nm v key [a,c])=(if gM [a,c] then 7 else 5):=by rw [Ho];unfold W3;simp only [Aax,if_true,if_false];try rfl
 rw [e1,e2];have o1:=Jx a c (hk a (by simp)).1 (hk c (by simp)).1 (hk a (by simp)).2 (hk c (by simp)).2 5 6 [45] (by decide);have o2:=Ie c (hk c (by simp)).1 (hk c (by simp)).2 7;have o3:=ll 12 n m nm v key a c;have l2:=Dk (an c) 7;have m2:(an c).s.length<=200000:=(hk c (by simp)).2;clear e1 e2 hk;generalize NA (an a) 5 [45] (an c) 6=s at *;generalize EN (an c) 7=s2 at *;have c1:=Cq (a:=[45]) (b:=s2) (by simp only [Aaw,Aay];omega);clear l2 m2;generalize gM [a,c]=q at *;obtain ⟨ak,an',am,anm,av,akey,akids⟩:=a;obtain ⟨ck,cn,cm,cnm,cv,ckey,ckids⟩:=c;simp only [Bw,A1] at o1 o2 o3 |-;have q1:=AW akids;have q2:=AW ckids;generalize A1 akids=xs at *;generalize A1 ckids=ys at *;rw [Bc rfl];cases q with
 | true=>
  rw [if_pos rfl,if_pos rfl];rw [<- Al];rw [<- AI] at o1 o2 o3;simp only [Aa,Ac,Abb,Aav];simp only [S9,Af,seval,HY,Pu,Aau,o1,o2,o3,c1,q1,q2];exact ⟨_,rfl⟩
 | false=>
  rw [if_neg (by simp),if_neg (by simp)];rw [<- Al];rw [<- AI] at o1 o2 o3;simp only [Aa,Ac,Abb,Aav];simp only [S9,Af,seval,HY,Pu,Aau,o1,o2,o3,c1,q1,q2];exact ⟨_,rfl⟩
theorem Y' (n m:Int) (nm:List UInt8) (v:Vl) (key:Ky) (kids:List Tr) (hr:Fk 2 n m key.1=true) (hd:GY key.1) (l1:nm.length<=100) (l2:key.2.1.length<=100) (l3:key.2.2.length<=100):∃ bx,Ad CC 37 [Bw (.mk 2 n m nm v key kids)] []=some (.ret (.tup [.str (TX (.mk 2 n m nm v key kids)),.int .i64 (LV (.mk 2 n m nm v key kids))]),bx):=by
 have e1:TX (.mk 2 n m nm v key kids)=K1 2 n m nm key:=by rw [FP];unfold Ll;simp only [Aax,if_true,if_false]
 have e2:LV (.mk 2 n m nm v key kids)=8:=by rw [Ho];unfold W3;simp only [Aax,if_true,if_false]
 rw [e1,e2];have o1:=Hm 2 n m nm v key kids (by omega) hr hd l1 l2 l3;clear e1 e2 hr hd l1 l2 l3;generalize K1 2 n m nm key=s at *;simp only [Bw] at o1 |-;generalize A1 kids=xs at *;rw [Bc rfl];rw [<- Al];rw [<- AI] at o1;simp only [Aa,Ac,Abb,Aav];simp only [S9,Af,seval,HY,Pu,Aau,o1];exact ⟨_,rfl⟩
theorem Za (n m:Int) (nm:List UInt8) (v:Vl) (key:Ky) (kids:List Tr) (hr:Fk 3 n m key.1=true) (hd:GY key.1) (l1:nm.length<=100) (l2:key.2.1.length<=100) (l3:key.2.2.length<=100):∃ bx,Ad CC 37 [Bw (.mk 3 n m nm v key kids)] []=some (.ret (.tup [.str (TX (.mk 3 n m nm v key kids)),.int .i64 (LV (.mk 3 n m nm v key kids))]),bx):=by
 have e1:TX (.mk 3 n m nm v key kids)=K1 3 n m nm key:=by rw [FP];unfold Ll;simp only [Aax,if_true,if_false]
 have e2:LV (.mk 3 n m nm v key kids)=8:=by rw [Ho];unfold W3;simp only [Aax,if_true,if_false]
 rw [e1,e2];have o1:=Hm 3 n m nm v key kids (by omega) hr hd l1 l2 l3;clear e1 e2 hr hd l1 l2 l3;generalize K1 3 n m nm key=s at *;simp only [Bw] at o1 |-;generalize A1 kids=xs at *;rw [Bc rfl];rw [<- Al];rw [<- AI] at o1;simp only [Aa,Ac,Abb,Aav];simp only [S9,Af,seval,HY,Pu,Aau,o1];exact ⟨_,rfl⟩
theorem Zb (n m:Int) (nm:List UInt8) (v:Vl) (key:Ky) (kids:List Tr) (hr:Fk 4 n m key.1=true) (hd:GY key.1) (l1:nm.length<=100) (l2:key.2.1.length<=100) (l3:key.2.2.length<=100):∃ bx,Ad CC 37 [Bw (.mk 4 n m nm v key kids)] []=some (.ret (.tup [.str (TX (.mk 4 n m nm v key kids)),.int .i64 (LV (.mk 4 n m nm v key kids))]),bx):=by
 have e1:TX (.mk 4 n m nm v key kids)=K1 4 n m nm key:=by rw [FP];unfold Ll;simp only [Aax,if_true,if_false]
 have e2:LV (.mk 4 n m nm v key kids)=8:=by rw [Ho];unfold W3;simp only [Aax,if_true,if_false]
 rw [e1,e2];have o1:=Hm 4 n m nm v key kids (by omega) hr hd l1 l2 l3;clear e1 e2 hr hd l1 l2 l3;generalize K1 4 n m nm key=s at *;simp only [Bw] at o1 |-;generalize A1 kids=xs at *;rw [Bc rfl];rw [<- Al];rw [<- AI] at o1;simp only [Aa,Ac,Abb,Aav];simp only [S9,Af,seval,HY,Pu,Aau,o1];exact ⟨_,rfl⟩
theorem Zc (n m:Int) (nm:List UInt8) (v:Vl) (key:Ky) (kids:List Tr) (hr:Fk 5 n m key.1=true) (hd:GY key.1) (l1:nm.length<=100) (l2:key.2.1.length<=100) (l3:key.2.2.length<=100):∃ bx,Ad CC 37 [Bw (.mk 5 n m nm v key kids)] []=some (.ret (.tup [.str (TX (.mk 5 n m nm v key kids)),.int .i64 (LV (.mk 5 n m nm v key kids))]),bx):=by
 have e1:TX (.mk 5 n m nm v key kids)=K1 5 n m nm key:=by rw [FP];unfold Ll;simp only [Aax,if_true,if_false]
 have e2:LV (.mk 5 n m nm v key kids)=8:=by rw [Ho];unfold W3;simp only [Aax,if_true,if_false]
 rw [e1,e2];have o1:=Hm 5 n m nm v key kids (by omega) hr hd l1 l2 l3;clear e1 e2 hr hd l1 l2 l3;generalize K1 5 n m nm key=s at *;simp only [Bw] at o1 |-;generalize A1 kids=xs at *;rw [Bc rfl];rw [<- Al];rw [<- AI] at o1;simp only [Aa,Ac,Abb,Aav];simp only [S9,Af,seval,HY,Pu,Aau,o1];exact ⟨_,rfl⟩
theorem Xc (n m:Int) (nm:List UInt8) (v:Vl) (key:Ky) (kids:List Tr) (hr:Fk 15 n m key.1=true) (hd:GY key.1) (l1:nm.length<=100) (l2:key.2.1.length<=100) (l3:key.2.2.length<=100):∃ bx,Ad CC 37 [Bw (.mk 15 n m nm v key kids)] []=some (.ret (.tup [.str (TX (.mk 15 n m nm v key kids)),.int .i64 (LV (.mk 15 n m nm v key kids))]),bx):=by
 have e1:TX (.mk 15 n m nm v key kids)=K1 15 n m nm key:=by rw [FP];unfold Ll;simp only [Aax,if_true,if_false]
 have e2:LV (.mk 15 n m nm v key kids)=8:=by rw [Ho];unfold W3;simp only [Aax,if_true,if_false]
 rw [e1,e2];have o1:=Hm 15 n m nm v key kids (by omega) hr hd l1 l2 l3;clear e1 e2 hr hd l1 l2 l3;generalize K1 15 n m nm key=s at *;simp only [Bw] at o1 |-;generalize A1 kids=xs at *;rw [Bc rfl];rw [<- Al];rw [<- AI] at o1;simp only [Aa,Ac,Abb,Aav];simp only [S9,Af,seval,HY,Pu,Aau,o1];exact ⟨_,rfl⟩
theorem pq (k n m:Int) (nm:List UInt8) (key:Ky) (hk:k=2\/k=3\/k=4\/k=5\/k=15) (hr:Fk k n m key.1=true) (hd:GY key.1) (l1:nm.length<=100) (l2:key.2.1.length<=100) (l3:key.2.2.length<=100):(K1 k n m nm key).length<=300:=by
 have hi:=Dj hd;have zo:∀ w ∈ bK,w.length=3:=by decide
 have hdy:∀ (l:List (List UInt8)) (q:Nat),(∀ w ∈ l,w.length=3)->(W0 q l).length<=4 * l.length:=by
  intro l
  induction l with
  | nil=>intro q _;simp [W0]
  | cons w r ih=>
   intro q hw;have h3:=hw w List.mem_cons_self;have hr:=ih (q / 2) (fun x hx=>hw x (List.mem_cons_of_mem _ hx));unfold W0;split
   · split
     · simp only [Aaw];omega
     · simp only [Abk,Aaw];omega
   · simp only [Aaw];omega
 have iG:=hdy bK n.toNat zo;have h7:bK.length=7:=rfl;unfold K1;split
 · unfold E3
   simp only [AD,Abg];omega
 split
 · simp only [AD,Aaw,Aay]
   omega
 split
 · have e1:(FL n.toNat).length=5:=rfl
   have e2:(FL m.toNat).length=5:=rfl;simp only [AD,Aaw,Aay,e1,e2];omega
 split
 · unfold Ql
   simp only [Abk,Aaw,Aay];omega
 · unfold kX
   split <;> decide
theorem td (v:Vl) (h:GY v.2.1):(ZX v).length<=300:=by
 unfold ZX;have hi:=Dj h;split
 · simp
 · rename_i hc
   have hk:=bJ (v:=v) (by omega);split
   · decide
   · split
     · split <;> decide
     · split
       · omega
       · split
         · simp only [Aaw];omega
         · have:=Wr v.2.2
           have:=EF v.2.2;omega
theorem Zd {k n m:Int} {nm:List UInt8} {v:Vl} {key:Ky} {kids:List Tr} (h:Wi (.mk k n m nm v key kids)=0):1<=k/\k<=15/\Em k kids.length=true/\Fk k n m key.1=true/\(k=1->Ku v=0/\v.1≠0):=by
 unfold Wi at h;dsimp only at h;by_cases h1:k < 1\/15 < k
 · rw [if_pos h1] at h;simp at h
 rw [if_neg h1] at h;by_cases h2:Em k kids.length=false\/iA (.mk k n m nm v key kids)=true
 · rw [if_pos h2] at h;simp at h
 rw [if_neg h2] at h;by_cases h3:Fk k n m key.1=false
 · rw [if_pos h3] at h;simp at h
 rw [if_neg h3] at h
 have b2:Em k kids.length=true:=by
  cases hb:Em k kids.length with
  | true=>rfl
  | false=>exact absurd (.inl hb) h2
 have b3:Fk k n m key.1=true:=by
  cases hb:Fk k n m key.1 with
  | true=>rfl
  | false=>exact absurd hb h3
 refine ⟨by omega,by omega,b2,b3,fun hk=>?_⟩;rw [if_neg (by omega),if_neg (by omega),if_pos hk] at h;by_cases hc:Ku v≠0
 · rw [if_pos hc] at h;exact absurd h hc
 rw [if_neg hc] at h;by_cases h0:v.1=0
 · rw [if_pos h0] at h;simp at h
 exact ⟨by omega,h0⟩
theorem rB {k:Int} {l:List Tr} (hk:1<=k/\k<=15) (h:Em k l.length=true):l.length<=8:=by
 unfold Em at h;split at h
 · have:=eq_of_beq h;omega
 split at h
 · rw [Abh] at h
   have:=of_decide_eq_true h.2;omega
 split at h
 · have:=eq_of_beq h;omega
 split at h
 · have:=eq_of_beq h;omega
 · have:=eq_of_beq h;omega
def bQ:List Tr->Nat
 | []=>0
 | t :: r=>(TX t).length+20+bQ r
theorem Xd (op:List UInt8) (ho:op.length<=10) (least:Int):∀ (l:List Tr) (i:Nat) (acc:List UInt8),(Hn op least (HP l) i acc).length<=acc.length+bQ l
 | [],i,acc=>by unfold HP Hn bQ;omega
 | t :: r,i,acc=>by
  unfold HP Hn bQ;have h:=Xd op ho least r (i+1) (cat (if 0 < i then cat acc (cat (cat [32] op) [32]) else acc) (EN (an t) least));have k:=Dk (an t) least;have e:TX t=(an t).s:=rfl;rw [e]
  have h2:(if 0 < i then cat acc (cat (cat [32] op) [32]) else acc).length<=acc.length+12:=by
   split <;> (try simp only [AD,Abg]) <;> omega
  rw [AD] at h;omega
theorem tf {k n m:Int} {nm:List UInt8} {v:Vl} {key:Ky} {kids:List Tr} (hv:Em k kids.length=true):(VA k (an (.mk k n m nm v key kids))).length<=(TX (.mk k n m nm v key kids)).length+7:=by
 unfold VA;by_cases k9:k=9
 · subst k9
   obtain ⟨a,c,rfl⟩:=Fz (k:=9) (by omega) hv;rw [if_pos rfl,VB,FP];unfold Ll;simp only [Aax,if_true,if_false];simp only [NA,EO,AD,Aaw,Aay];omega
 by_cases k10:k=10
 · subst k10
   obtain ⟨a,c,rfl⟩:=Fz (k:=10) (by omega) hv;rw [if_neg (by omega),if_pos rfl,VB,FP];unfold Ll;simp only [Aax,if_true,if_false];simp only [NA,EO,AD,Aaw,Aay];omega
 rw [if_neg k9,if_neg k10,AD];have:=Dk (an (.mk k n m nm v key kids)) 3;have e:TX (.mk k n m nm v key kids)=(an (.mk k n m nm v key kids)).s:=rfl;rw [e];simp only [Aaw,Aay];omega
theorem lu {k n m:Int} {nm:List UInt8} {v:Vl} {key:Ky} {kids:List Tr} (h:Wi (.mk k n m nm v key kids)=0) (qL:∀ t ∈ kids,∃ k n m nm v key l,t=.mk k n m nm v key l/\Wi t=0) (l1:nm.length<=100) (l2:key.2.1.length<=100) (l3:key.2.2.length<=100) (hi:GY v.2.1) (hd:GY key.1) :
 (TX (.mk k n m nm v key kids)).length<=400+bQ kids:=by
 obtain ⟨g1,g2,g3,g4,g5⟩:=Zd h;rw [FP]
 have ZU:∀ (l1:Int) (op:List UInt8) (l2:Int) (a c:Tr),(NA (an a) l1 op (an c) l2).length<=(TX a).length+(TX c).length+6+op.length:=fun l1 op l2 a c=>by
  have:=Dk (an a) l1;have:=Dk (an c) l2;have e1:TX a=(an a).s:=rfl;have e2:TX c=(an c).s:=rfl;rw [e1,e2];unfold NA;simp only [AD,Abg];omega
 have JR:k=1\/k=14\/k=8\/k=7\/k=6\/k=9\/k=10\/k=11\/k=12\/k=13\/(k=2\/k=3\/k=4\/k=5\/k=15):=by omega
 rcases JR with rfl | rfl | rfl | rfl | rfl | rfl | rfl | rfl | rfl | rfl | hp
 · unfold Ll
   simp only [Aax,if_true,if_false];have:=td v hi;omega
 · obtain ⟨a,c,d,rfl⟩:=Y4 g3
   unfold Ll;simp only [Aax,if_true,if_false];have f1:=Dk (an a) 0;have f2:=Dk (an c) 0;have f3:=Dk (an d) 0;have e1:TX a=(an a).s:=rfl;have e2:TX c=(an c).s:=rfl;have e3:TX d=(an d).s:=rfl;have a0:L0 (HP [a,c,d]) 0=an a:=rfl;have a1:L0 (HP [a,c,d]) 1=an c:=rfl;have a2:L0 (HP [a,c,d]) 2=an d:=rfl;rw [a0,a1,a2];simp only [bQ,AD,Aaw,Aay,e1,e2,e3];omega
 · unfold Ll
   simp only [Aax,if_true,if_false];have:=Xd [111,114] (by decide) 2 kids 0 [];simp only [Aay] at this;omega
 · unfold Ll
   simp only [Aax,if_true,if_false];have:=Xd [97,110,100] (by decide) 3 kids 0 [];simp only [Aay] at this;omega
 · obtain ⟨a,rfl⟩:=lr g3
   obtain ⟨k',n',m',nm',v',key',l',rfl,hnn⟩:=qL a (by simp);obtain ⟨_,_,q3,_,_⟩:=Zd hnn;have:=tf (n:=n') (m:=m') (nm:=nm') (v:=v') (key:=key') q3
   have e:Ll 6 n m nm v key [.mk k' n' m' nm' v' key' l'] (HP [.mk k' n' m' nm' v' key' l'])=VA k' (an (.mk k' n' m' nm' v' key' l')):=by
    unfold Ll;simp only [Aax,if_true,if_false];rfl
   rw [e];simp only [bQ];omega
 · obtain ⟨a,c,rfl⟩:=Fz (k:=9) (by omega) g3
   unfold Ll;simp only [Aax,if_true,if_false];have a0:L0 (HP [a,c]) 0=an a:=rfl;have a1:L0 (HP [a,c]) 1=an c:=rfl;rw [a0,a1];have:=ZU 5 [61,61] 5 a c;simp only [Aaw,Aay] at this;simp only [bQ];omega
 · obtain ⟨a,c,rfl⟩:=Fz (k:=10) (by omega) g3
   unfold Ll;simp only [Aax,if_true,if_false];have a0:L0 (HP [a,c]) 0=an a:=rfl;have a1:L0 (HP [a,c]) 1=an c:=rfl;rw [a0,a1];have:=ZU 5 [60] 5 a c;simp only [Aaw,Aay] at this;simp only [bQ];omega
 · obtain ⟨a,c,rfl⟩:=Fz (k:=11) (by omega) g3
   unfold Ll;simp only [Aax,if_true,if_false];have a0:L0 (HP [a,c]) 0=an a:=rfl;have a1:L0 (HP [a,c]) 1=an c:=rfl;rw [a0,a1];have:=ZU 5 [43] 6 a c;simp only [Aaw,Aay] at this;simp only [bQ];omega
 · obtain ⟨a,c,rfl⟩:=Fz (k:=12) (by omega) g3
   unfold Ll;simp only [Aax,if_true,if_false];have a0:L0 (HP [a,c]) 0=an a:=rfl;have a1:L0 (HP [a,c]) 1=an c:=rfl;rw [a0,a1];have:=ZU 5 [45] 6 a c;have f:=Dk (an c) 7;have e:TX c=(an c).s:=rfl;simp only [Aaw,Aay] at this;simp only [bQ];split
   · simp only [AD,Aaw,Aay,e]
     omega
   · omega
 · obtain ⟨a,c,rfl⟩:=Fz (k:=13) (by omega) g3
   unfold Ll;simp only [Aax,if_true,if_false];have a0:L0 (HP [a,c]) 0=an a:=rfl;have a1:L0 (HP [a,c]) 1=an c:=rfl;rw [a0,a1];have:=ZU 6 [42] 7 a c;simp only [Aaw,Aay] at this;simp only [bQ];omega
 · have:=pq k n m nm key hp g4 hd l1 l2 l3
   have e:Ll k n m nm v key kids (HP kids)=K1 k n m nm key:=by
    unfold Ll;rw [if_neg (by omega),if_neg (by omega),if_neg (by omega),if_neg (by omega),if_neg (by omega),if_neg (by omega),if_neg (by omega),if_neg (by omega),if_neg (by omega),if_neg (by omega)]
   rw [e];omega
theorem Aak:∀ l:List Tr,bN l->∀ t ∈ l,∃ k n m nm v key l',t=.mk k n m nm v key l'/\Wi t=0:=fun l h t ht=>by
 have hv:=(dU l).1 h t ht;obtain ⟨k,n,m,nm,v,key,l'⟩:=t;unfold vT at hv;exact ⟨k,n,m,nm,v,key,l',rfl,hv.1⟩
mutual
theorem bR (t:Tr) (hv:vT t) (hs:FM t) (ho:Lu t):(TX t).length<=600 * po t:=by
 match t with
 | .mk k n m nm v key kids=>
  unfold vT at hv;unfold FM at hs;unfold Lu at ho;unfold po;obtain ⟨o1,o2,o3,o4,o5,o6,o7,o8⟩:=ho;have h1:=lu hv.1 (Aak kids hv.2) hs.1.1 hs.1.2.2.1 hs.1.2.2.2.1 o5.2.1 o6.1;have h2:=dV kids hv.2 hs.2 o8;obtain ⟨g1,g2,g3,_,_⟩:=Zd hv.1;have h3:=rB ⟨g1,g2⟩ g3;omega
theorem dV (l:List Tr) (hv:bN l) (hs:DC l) (ho:JM l):bQ l<=600 * OJ l+20 * l.length:=by
 match l with
 | []=>unfold bQ OJ;omega
 | t :: r=>
  unfold bN at hv;unfold DC at hs;unfold JM at ho;unfold bQ OJ;have h1:=bR t hv.1 hs.1 ho.1;have h2:=dV r hv.2 hs.2 ho.2;rw [Aaw];omega
end
theorem tg {t:Tr} (h:∃ bx,Ad CC 37 [Bw t] []=some (.ret (.tup [.str (TX t),.int .i64 (LV t)]),bx)):NF t:=fun bx=>by
 obtain ⟨c,hc⟩:=h;exact Ao rfl (by simp only [AK,Bz,Bk,Abd]) hc rfl
theorem dW {l:List Tr} (hv:bN l) (hs:DC l) (ho:JM l) (hn:OJ l<=300):∀ t ∈ l,(TX t).length<=200000:=by
 induction l with
 | nil=>intro t ht;cases ht
 | cons a r ih=>
  unfold bN at hv;unfold DC at hs;unfold JM at ho;unfold OJ at hn;intro t ht;rcases Abp.1 ht with rfl | ht
  · have:=bR t hv.1 hs.1 ho.1;omega
  · exact ih hv.2 hs.2 ho.2 (by omega) t ht
mutual
theorem rC (t:Tr) (hv:vT t) (hs:FM t) (ho:Lu t) (hn:po t<=300):NF t/\∀ y ∈ EO t,NF y:=by
 match t with
 | .mk k n m nm v key kids=>
  unfold vT at hv;unfold FM at hs;unfold Lu at ho;unfold po at hn;obtain ⟨o1,o2,o3,o4,o5,o6,o7,o8⟩:=ho;have hk:=lz kids hv.2 hs.2 o8 (by omega);have hl:=dW hv.2 hs.2 o8 (by omega);have Tp:∀ t ∈ kids,NF t/\(TX t).length<=200000:=fun t ht=>⟨(hk t ht).1,hl t ht⟩;obtain ⟨g1,g2,g3,g4,g5⟩:=Zd hv.1;have h8:=rB ⟨g1,g2⟩ g3;refine ⟨tg ?_,fun y hy=>(hk y hy).1⟩;have JR:k=1\/k=14\/k=8\/k=7\/k=6\/k=9\/k=10\/k=11\/k=12\/k=13\/k=2\/k=3\/k=4\/k=5\/k=15:=by omega
  rcases JR with rfl | rfl | rfl | rfl | rfl | rfl | rfl | rfl | rfl | rfl | rfl | rfl | rfl | rfl | rfl
  · exact Y5 n m nm v key kids o5.2.1 (g5 rfl).1 (g5 rfl).2
  · exact Xa n m nm v key kids g3 Tp
  · exact Y6 n m nm v key kids (by omega) Tp
  · exact Y7 n m nm v key kids (by omega) Tp
  · obtain ⟨a,rfl⟩:=lr g3
    refine Y9 n m nm v key _ a rfl ?_;have ha:=hk a (by simp);have sd:=hl a (by simp);obtain ⟨hva,_⟩:=hv.2;obtain ⟨qT,_⟩:=hs.2;unfold JM at o8;have hoa:=o8.1;unfold OJ at hn;obtain ⟨k',n',m',nm',v',key',kids'⟩:=a;unfold vT at hva;unfold FM at qT;unfold Lu at hoa;unfold po at hn;have D3:=dW hva.2 qT.2 hoa.2.2.2.2.2.2.2 (by omega);obtain ⟨_,_,q3,_,_⟩:=Zd hva.1;exact bP k' n' m' nm' v' key' kids' q3 ha.1 sd (fun t ht=>⟨ha.2 t ht,D3 t ht⟩)
  · exact Y8 n m nm v key kids g3 Tp
  · exact W7 n m nm v key kids g3 Tp
  · exact W8 n m nm v key kids g3 Tp
  · exact Xb n m nm v key kids g3 Tp
  · exact W9 n m nm v key kids g3 Tp
  · exact Y' n m nm v key kids g4 o6.1 hs.1.1 hs.1.2.2.1 hs.1.2.2.2.1
  · exact Za n m nm v key kids g4 o6.1 hs.1.1 hs.1.2.2.1 hs.1.2.2.2.1
  · exact Zb n m nm v key kids g4 o6.1 hs.1.1 hs.1.2.2.1 hs.1.2.2.2.1
  · exact Zc n m nm v key kids g4 o6.1 hs.1.1 hs.1.2.2.1 hs.1.2.2.2.1
  · exact Xc n m nm v key kids g4 o6.1 hs.1.1 hs.1.2.2.1 hs.1.2.2.2.1
theorem lz (l:List Tr) (hv:bN l) (hs:DC l) (ho:JM l) (hn:OJ l<=300):∀ t ∈ l,NF t/\∀ y ∈ EO t,NF y:=by
 match l with
 | []=>intro t ht;cases ht
 | a :: r=>
  unfold bN at hv;unfold DC at hs;unfold JM at ho;unfold OJ at hn;have h1:=rC a hv.1 hs.1 ho.1 (by omega);have h2:=lz r hv.2 hs.2 ho.2 (by omega);intro t ht;rcases Abp.1 ht with rfl | ht
  · exact h1
  · exact h2 t ht
end
theorem Xe:Be CC Ab0 (Ab0.body.getD .skip)=true:=by kernel_rfl
theorem Ux:CC.P.funcs[9]?=some Ab0:=by kernel_rfl
theorem DW {x:List PV} {b:List PBox} (h:x.length.ble Ab0.ntmps=true):Ad CC 9 x b=CD CC Ab0.results.toList (Cf CC (Ab0.body.getD .skip) ⟨x,b⟩):=Ah (fn:=Ab0) (c:=Ab0.body.getD .skip) rfl rfl Ux rfl Xe (Ab3 h)
def GO (t:Tg):Bool:=decide (t.nm.length<=100/\t.key.2.1.length<=100/\t.key.2.2.length<=100/\t.ev.2.1.length<=100/\t.ev.2.2.length<=100)
def Hy (s:Sp):Bool:=decide (s.nm.length<=100/\s.key.2.1.length<=100/\s.key.2.2.length<=100/\0<=Tn s.ex 220 30)
def Ig (r:Rl):Bool:=decide (r.nm.length<=100/\r.on.length<=12/\r.dos.length<=12/\0<=Tn r.ife 220 30) && r.on.all GO && r.dos.all Hy
theorem L1:zeroCells CC 58=some [.int .i64 0,.int .i64 0,.str [],.str [],.int .i64 0,.str [],.str [],.str [],.int .i64 0,.int .i64 0]:=by kernel_rfl
theorem Pv:zeroCells CC 60=some [.int .i64 0,.int .i64 0,.str [],.str [],.str [],.int .i64 0,.int .i64 0,.int .i64 0,.str [],.int .i64 0,.int .i64 0,.str [],.int .i64 0,.str [],.str [],.nils]:=by kernel_rfl
def py (j:Nat) (bx:List PBox) (v:Bool) (res:Option (Ex×St)):Prop:=∃ e' ex,(v=true/\res=some (.exit j,⟨e',bx++ex⟩)/\getT e' 1=.bp 0 0)\/(v=false/\res=some (.ret,⟨e',bx++ex⟩)/\getT e' 2=.bool false)
theorem py.app {j:Nat} {bx:List PBox} {x:PBox} {v:Bool} {res:Option (Ex×St)} (h:py j (bx++[x]) v res):py j bx v res:=by
 obtain ⟨e',ex,h⟩:=h;refine ⟨e',[x]++ex,?_⟩;rw [<- Abl];exact h
theorem pA (L:Code) (hL:L=Aa Ab0 [1,1,0,1,0]) (l:List Tg) (hl:l.length<=12):∀ (k i:Nat) (e:List PV) (bx:List PBox),i+k=l.length ->
 getT e 1=.bp 0 0->getT e 30=.sl (l.map BE)->getT e 31=.int .i64 l.length->getT e 32=.int .i64 i->py 0 bx ((l.drop i).all GO) (Cf CC L ⟨e,bx⟩):=by
 intro k
 induction k with
 | zero=>
  intro i e bx DK e1 es el ei;rw [AX (Aa Ab0 [1,1,0,1,0,0]) hL];have hi:¬ ((i:Int) < (l.length:Int)):=by omega
  rw [Ab7 (by omega)];rw [Abt];generalize l.map BE=xs at *;rw [<- Al];simp only [Aa,Ac,Ab0,Aav];simp only [S8,Af,SG,seval,UT,SC,L1,Pv,Aau,e1,es,el,ei,hi];exact ⟨_,[],.inl ⟨rfl,by rw [Abf],by simp only [S7,Af,seval,e1]⟩⟩
 | succ k ih=>
  intro i e bx DK e1 es el ei;rw [AX (Aa Ab0 [1,1,0,1,0,0]) hL];have hi:((i:Int) < (l.length:Int)):=by omega
  have C4:¬ ((i:Int) < 0):=by omega
  have G1:l.drop i=(l[i]'(by omega)) :: l.drop (i+1):=Ab5 (by omega);have hx:(l.map BE)[i]?=some (BE (l[i]'(by omega))):=by rw [Abc,Ab6 (by omega)];rfl
  have I5:=wrap_i64 (n:=(i:Int)+1) ⟨by omega,by omega⟩;have key:=fun e bx=>ih (i+1) e bx (by omega);have cast1:((i+1:Nat):Int)=(i:Int)+1:=by omega
  rw [cast1] at key;rw [G1,Abr];generalize l[i]'(by omega)=x at *;generalize (l.drop (i+1)).all GO=v at *;generalize l.map BE=xs at *;obtain ⟨xk,xkey,xev,xnm,xn,xm⟩:=x;obtain ⟨xd,xcl,xat⟩:=xkey;obtain ⟨yd,yc,yn⟩:=xev;have l1:=A7 xnm;have l2:=A7 xcl;have l3:=A7 xat;have l4:=A7 yc;have l5:=A7 yn;unfold BE at hx;simp only at hx;by_cases c0:((xnm.length:Int) > 100)
  · rw [show GO ⟨xk,(xd,xcl,xat),(yd,yc,yn),xnm,xn,xm⟩=false by unfold GO;simp only [decide_eq_false_iff_not];intro h;have:=h.1;omega,Aaz]
    rw [<- Al];skip;simp only [Aa,Ac,Ab0,Aav];simp only [S8,Af,SG,seval,UT,SC,L1,Pv,Aau,e1,es,el,ei,hi,C4,hx,l1,l2,l3,l4,l5,c0];exact ⟨_,_,.inr ⟨rfl,rfl,by simp only [S7,Af,seval]⟩⟩
  by_cases c1:((xcl.length:Int) > 100)
  · rw [show GO ⟨xk,(xd,xcl,xat),(yd,yc,yn),xnm,xn,xm⟩=false by unfold GO;simp only [decide_eq_false_iff_not];intro h;have:=h.2.1;omega,Aaz]
    rw [<- Al];skip;simp only [Aa,Ac,Ab0,Aav];simp only [S8,Af,SG,seval,UT,SC,L1,Pv,Aau,e1,es,el,ei,hi,C4,hx,l1,l2,l3,l4,l5,c0,c1];exact ⟨_,_,.inr ⟨rfl,rfl,by simp only [S7,Af,seval]⟩⟩
  by_cases c2:((xat.length:Int) > 100)
  · rw [show GO ⟨xk,(xd,xcl,xat),(yd,yc,yn),xnm,xn,xm⟩=false by unfold GO;simp only [decide_eq_false_iff_not];intro h;have:=h.2.2.1;omega,Aaz]
    rw [<- Al];skip;simp only [Aa,Ac,Ab0,Aav];simp only [S8,Af,SG,seval,UT,SC,L1,Pv,Aau,e1,es,el,ei,hi,C4,hx,l1,l2,l3,l4,l5,c0,c1,c2];exact ⟨_,_,.inr ⟨rfl,rfl,by simp only [S7,Af,seval]⟩⟩
  by_cases c3:((yc.length:Int) > 100)
  · rw [show GO ⟨xk,(xd,xcl,xat),(yd,yc,yn),xnm,xn,xm⟩=false by unfold GO;simp only [decide_eq_false_iff_not];intro h;have:=h.2.2.2.1;omega,Aaz]
    rw [<- Al];skip;simp only [Aa,Ac,Ab0,Aav];simp only [S8,Af,SG,seval,UT,SC,L1,Pv,Aau,e1,es,el,ei,hi,C4,hx,l1,l2,l3,l4,l5,c0,c1,c2,c3];exact ⟨_,_,.inr ⟨rfl,rfl,by simp only [S7,Af,seval]⟩⟩
  by_cases c4:((yn.length:Int) > 100)
  · rw [show GO ⟨xk,(xd,xcl,xat),(yd,yc,yn),xnm,xn,xm⟩=false by unfold GO;simp only [decide_eq_false_iff_not];intro h;have:=h.2.2.2.2;omega,Aaz]
    rw [<- Al];skip;simp only [Aa,Ac,Ab0,Aav];simp only [S8,Af,SG,seval,UT,SC,L1,Pv,Aau,e1,es,el,ei,hi,C4,hx,l1,l2,l3,l4,l5,c0,c1,c2,c3,c4];exact ⟨_,_,.inr ⟨rfl,rfl,by simp only [S7,Af,seval]⟩⟩
  rw [show GO ⟨xk,(xd,xcl,xat),(yd,yc,yn),xnm,xn,xm⟩=true by unfold GO;simp only [decide_eq_true_eq];exact ⟨by omega,by omega,by omega,by omega,by omega⟩,Abi];apply py.app;rw [<- Al];rw [<- Al] at key;skip;simp only [Aa,Ac,Ab0,Aav];simp only [S8,Af,SG,seval,UT,SC,L1,Pv,Aau,e1,es,el,ei,hi,C4,hx,I5,l1,l2,l3,l4,l5,c0,c1,c2,c3,c4];refine key _ _ ?_ ?_ ?_ ?_
  all_goals simp only [S7,Af,seval,e1,es,el,ei]
theorem pB (L:Code) (hL:L=Aa Ab0 [1,1,1,0,1,0]) (l:List Sp) (hl:l.length<=12):∀ (k i:Nat) (e:List PV) (bx:List PBox),i+k=l.length ->
 getT e 1=.bp 0 0->getT e 70=.sl (l.map Ec)->getT e 71=.int .i64 l.length->getT e 72=.int .i64 i->py 2 bx ((l.drop i).all Hy) (Cf CC L ⟨e,bx⟩):=by
 intro k
 induction k with
 | zero=>
  intro i e bx DK e1 es el ei;rw [AX (Aa Ab0 [1,1,1,0,1,0,0]) hL];have hi:¬ ((i:Int) < (l.length:Int)):=by omega
  rw [Ab7 (by omega)];rw [Abt];generalize l.map Ec=xs at *;rw [<- Al];simp only [Aa,Ac,Ab0,Aav];simp only [S8,Af,SG,seval,UT,SC,L1,Pv,Aau,e1,es,el,ei,hi];exact ⟨_,[],.inl ⟨rfl,by rw [Abf],by simp only [S7,Af,seval,e1]⟩⟩
 | succ k ih=>
  intro i e bx DK e1 es el ei;rw [AX (Aa Ab0 [1,1,1,0,1,0,0]) hL];have hi:((i:Int) < (l.length:Int)):=by omega
  have C4:¬ ((i:Int) < 0):=by omega
  have G1:l.drop i=(l[i]'(by omega)) :: l.drop (i+1):=Ab5 (by omega);have hx:(l.map Ec)[i]?=some (Ec (l[i]'(by omega))):=by rw [Abc,Ab6 (by omega)];rfl
  have I5:=wrap_i64 (n:=(i:Int)+1) ⟨by omega,by omega⟩;have key:=fun e bx=>ih (i+1) e bx (by omega);have cast1:((i+1:Nat):Int)=(i:Int)+1:=by omega
  rw [cast1] at key;rw [G1,Abr];generalize l[i]'(by omega)=x at *;generalize (l.drop (i+1)).all Hy=v at *;generalize l.map Ec=xs at *;obtain ⟨xk,xkey,xnm,xt⟩:=x;obtain ⟨xd,xcl,xat⟩:=xkey;have l1:=A7 xnm;have l2:=A7 xcl;have l3:=A7 xat;have NW:=Vi xt 220 30 (by decide) (by decide);obtain ⟨res,UI⟩:∃ res,res=Tn xt 220 30:=⟨_,rfl⟩;rw [<- UI] at NW;have hxt:∃ k n m nm v key kids,xt=Tr.mk k n m nm v key kids:=by obtain ⟨k,n,m,nm,v,key,kids⟩:=xt;exact ⟨k,n,m,nm,v,key,kids,rfl⟩
  obtain ⟨zk,zn,zm,znm,zv,zkey,zkids,hxt⟩:=hxt;unfold Ec Vx at hx;simp only at hx;rw [hxt] at hx NW;unfold Bw at hx NW;simp only [SA,Ab4,Ab8] at hx NW;generalize A1 zkids=zs at *;by_cases c0:((xnm.length:Int) > 100)
  · rw [show Hy ⟨xk,(xd,xcl,xat),xnm,xt⟩=false by unfold Hy;simp only [decide_eq_false_iff_not];intro h;have:=h.1;omega,Aaz]
    rw [<- Al];rw [<- AI] at NW;simp only [Aa,Ac,Ab0,Aav];simp only [S8,Af,SG,seval,UT,SC,L1,Pv,Aau,e1,es,el,ei,hi,C4,hx,l1,l2,l3,NW,c0];exact ⟨_,_,.inr ⟨rfl,rfl,by simp only [S7,Af,seval]⟩⟩
  by_cases c1:((xcl.length:Int) > 100)
  · rw [show Hy ⟨xk,(xd,xcl,xat),xnm,xt⟩=false by unfold Hy;simp only [decide_eq_false_iff_not];intro h;have:=h.2.1;omega,Aaz]
    rw [<- Al];rw [<- AI] at NW;simp only [Aa,Ac,Ab0,Aav];simp only [S8,Af,SG,seval,UT,SC,L1,Pv,Aau,e1,es,el,ei,hi,C4,hx,l1,l2,l3,NW,c0,c1];exact ⟨_,_,.inr ⟨rfl,rfl,by simp only [S7,Af,seval]⟩⟩
  by_cases c2:((xat.length:Int) > 100)
  · rw [show Hy ⟨xk,(xd,xcl,xat),xnm,xt⟩=false by unfold Hy;simp only [decide_eq_false_iff_not];intro h;have:=h.2.2.1;omega,Aaz]
    rw [<- Al];rw [<- AI] at NW;simp only [Aa,Ac,Ab0,Aav];simp only [S8,Af,SG,seval,UT,SC,L1,Pv,Aau,e1,es,el,ei,hi,C4,hx,l1,l2,l3,NW,c0,c1,c2];exact ⟨_,_,.inr ⟨rfl,rfl,by simp only [S7,Af,seval]⟩⟩
  by_cases c3:res < 0
  · rw [show Hy ⟨xk,(xd,xcl,xat),xnm,xt⟩=false by unfold Hy;simp only [decide_eq_false_iff_not];intro h;have:=h.2.2.2;omega,Aaz]
    rw [<- Al];rw [<- AI] at NW;simp only [Aa,Ac,Ab0,Aav];simp only [S8,Af,SG,seval,UT,SC,L1,Pv,Aau,e1,es,el,ei,hi,C4,hx,l1,l2,l3,NW,c0,c1,c2,c3];exact ⟨_,_,.inr ⟨rfl,rfl,by simp only [S7,Af,seval]⟩⟩
  rw [show Hy ⟨xk,(xd,xcl,xat),xnm,xt⟩=true by unfold Hy;simp only [decide_eq_true_eq];exact ⟨by omega,by omega,by omega,by omega⟩,Abi];apply py.app;rw [<- Al];rw [<- Al] at key;rw [<- AI] at NW;simp only [Aa,Ac,Ab0,Aav];simp only [S8,Af,SG,seval,UT,SC,L1,Pv,Aau,e1,es,el,ei,hi,C4,hx,I5,l1,l2,l3,NW,c0,c1,c2,c3];refine key _ _ ?_ ?_ ?_ ?_
  all_goals simp only [S7,Af,seval,e1,es,el,ei]
theorem bS (r:Rl):∃ bx,Ad CC 9 [Dw r] []=some (.ret (.bool (Ig r)),bx):=by
 obtain ⟨nm,pr,on,ife,dos⟩:=r;have l1:=A7 nm;have lon:(on.map BE).length=on.length:=Abe _;have ldo:(dos.map Ec).length=dos.length:=Abe _;have NW:=Vi ife 220 30 (by decide) (by decide);obtain ⟨res,UI⟩:∃ res,res=Tn ife 220 30:=⟨_,rfl⟩;rw [<- UI] at NW;unfold Ig Dw Vx;simp only;rw [<- UI];obtain ⟨zk,zn,zm,znm,zv,zkey,zkids⟩:=ife;unfold Bw at NW |-;simp only [SA,Ab4,Ab8] at NW |-;generalize A1 zkids=zs at *;by_cases c0:(nm.length:Int) > 100
 · rw [decide_eq_false (by omega),Aaz,Aaz]
   rw [DW rfl];generalize on.map BE=xs at *;generalize dos.map Ec=ys at *;rw [<- Al];skip;simp only [Aa,Ac,Ab0,Aav];simp only [S8,Af,SG,seval,UT,SC,L1,Pv,Aau,l1,lon,ldo,NW,c0];exact ⟨_,rfl⟩
 by_cases c1:(on.length:Int) > 12
 · rw [decide_eq_false (by omega),Aaz,Aaz]
   rw [DW rfl];generalize on.map BE=xs at *;generalize dos.map Ec=ys at *;rw [<- Al];skip;simp only [Aa,Ac,Ab0,Aav];simp only [S8,Af,SG,seval,UT,SC,L1,Pv,Aau,l1,lon,ldo,NW,c0,c1];exact ⟨_,rfl⟩
 by_cases c2:(dos.length:Int) > 12
 · rw [decide_eq_false (by omega),Aaz,Aaz]
   rw [DW rfl];generalize on.map BE=xs at *;generalize dos.map Ec=ys at *;rw [<- Al];skip;simp only [Aa,Ac,Ab0,Aav];simp only [S8,Af,SG,seval,UT,SC,L1,Pv,Aau,l1,lon,ldo,NW,c0,c1,c2];exact ⟨_,rfl⟩
 by_cases c3:res < 0
 · rw [decide_eq_false (by omega),Aaz,Aaz]
   rw [DW rfl];generalize on.map BE=xs at *;generalize dos.map Ec=ys at *;rw [<- Al];rw [<- AI] at NW;simp only [Aa,Ac,Ab0,Aav];simp only [S8,Af,SG,seval,UT,SC,L1,Pv,Aau,l1,lon,ldo,NW,c0,c1,c2,c3];exact ⟨_,rfl⟩
 have Bv:=fun e bx=>pA _ rfl on (by omega) on.length 0 e bx (by omega);have QV:=fun e bx=>pB _ rfl dos (by omega) dos.length 0 e bx (by omega);rw [Abo] at Bv QV;rw [decide_eq_true (by omega),Abi];generalize on.all GO=v1 at *;generalize dos.all Hy=v2 at *;generalize on.map BE=xs at *;generalize dos.map Ec=ys at *;rw [DW rfl];rw [<- Al];rw [<- Al] at Bv QV;rw [<- AI] at NW;simp only [Aa,Ac,Ab0,Aav] at Bv QV |-;simp only [S8,Af,SG,seval,UT,SC,L1,Pv,Aau,l1,lon,ldo,NW,c0,c1,c2,c3];generalize hE:GM (Abj _) _=z
 have hP:py 0 [.cells 32 [.str nm,.int .i64 pr,.sl xs,.int .i64 zk,.int .i64 zn,.int .i64 zm,.str znm,.int .i64 zv.1,.int .i64 zv.2.1,.str zv.2.2,.int .i64 zkey.1,.str zkey.2.1,.str zkey.2.2,.sl zs,.sl ys]] v1 z:=by
  rw [<- hE];refine Bv _ _ ?_ ?_ ?_ ?_
  all_goals first | (simp only [S7,Af,seval];done) | (simp only [S7,Af,seval] <;> rfl)
 obtain ⟨e',ex,⟨hv,he,g1⟩ | ⟨hv,he,g2⟩⟩:=hP
 · subst he
   subst hv;simp only [S8,Af,SG,seval,UT,SC,L1,Pv,Aau,g1,ldo];generalize vE:GM (Abj _) _=z2
   have vF:py 2 (.cells 32 [.str nm,.int .i64 pr,.sl xs,.int .i64 zk,.int .i64 zn,.int .i64 zm,.str znm,.int .i64 zv.1,.int .i64 zv.2.1,.str zv.2.2,.int .i64 zkey.1,.str zkey.2.1,.str zkey.2.2,.sl zs,.sl ys] :: ex) v2 z2:=by
    rw [<- vE];refine QV _ _ ?_ ?_ ?_ ?_
    all_goals first | (simp only [S7,Af,seval,g1];done) | (simp only [S7,Af,seval,g1] <;> rfl)
   obtain ⟨e2,iB,⟨Z5,nC,g3⟩ | ⟨Z5,nC,g4⟩⟩:=vF
   · subst nC
     subst Z5;simp only [S8,Af,seval];exact ⟨_,rfl⟩
   · subst nC
     subst Z5;simp only [S8,Af,seval,g4];exact ⟨_,rfl⟩
 · subst he
   subst hv;simp only [S8,Af,seval,g2];exact ⟨_,rfl⟩
theorem Qp:Be CC Ab9 (Ab9.body.getD .skip)=true:=by kernel_rfl
theorem OL:CC.P.funcs[113]?=some Ab9:=by kernel_rfl
theorem SJ:Be CC Aba (Aba.body.getD .skip)=true:=by kernel_rfl
theorem Qq:CC.P.funcs[58]?=some Aba:=by kernel_rfl
theorem K2 (t:Tg):(BE t).pure=true:=by
 unfold BE;simp only [PV.pure,Ak,Abd]
theorem NG:∀ l:List Tg,Ak (l.map BE)=true
 | []=>rfl
 | t :: r=>by rw [Abq,AK,K2,NG r];rfl
theorem OM (a b:List PV):Ak (a++b)=(Ak a && Ak b):=by
 induction a with
 | nil=>rfl
 | cons x r ih=>rw [Ab4,AK,AK,ih,Bool.and_assoc]
theorem Ze (t:Tr):Ak (Vx t)=true:=by
 have h:=Bz t;rw [WR] at h;unfold PV.pure at h;exact h
theorem Hp (s:Sp):(Ec s).pure=true:=by
 unfold Ec PV.pure;rw [OM,Ze];rfl
theorem NH:∀ l:List Sp,Ak (l.map Ec)=true
 | []=>rfl
 | t :: r=>by rw [Abq,AK,Hp,NH r];rfl
theorem IU (r:Rl):(Dw r).pure=true:=by
 unfold Dw PV.pure;rw [OM,OM,Ze];simp only [AK,cX,Rh,Kp,Bk,NG,NH,Abd]
theorem lA (r:Rl) (bx):Ai CC (Ad CC) 9 [Dw r] bx=some (.ret (.bool (Ig r)),bx):=by
 obtain ⟨b,h⟩:=bS r;exact Ao rfl (by simp only [AK,IU,Bk,Abd]) h rfl
def ZY (n:Int):Bool:=decide (1<=n/\n<=250)
theorem Hq:A' CC 56 []=some (.agg [.int .i64 0,.str [],.str []]):=by kernel_rfl
theorem bT:CC.P.eqGuardType CC.P.depth 56=false:=by kernel_rfl
theorem NI (n:Int):Ad CC 113 [.int .i64 n] []=some (.ret (.bool (ZY n)),[]):=by
 rw [Ah (fn:=Ab9) (c:=Ab9.body.getD .skip) rfl rfl OL rfl Qp (Ab3 rfl)];by_cases c1:n ≥ 1
 · by_cases c2:n<=250
   · rw [show ZY n=true by unfold ZY;simp only [decide_eq_true_eq];omega]
     rw [<- Al];simp only [Aa,Ac,Ab9,Aav];simp only [S8,Af,SG,seval,UT,SC,Cw,bT,Br,Hq,c1,c2]
   · rw [show ZY n=false by unfold ZY;simp only [decide_eq_false_iff_not];omega]
     rw [<- Al];simp only [Aa,Ac,Ab9,Aav];simp only [S8,Af,SG,seval,UT,SC,Cw,bT,Br,Hq,c1,c2]
 · rw [show ZY n=false by unfold ZY;simp only [decide_eq_false_iff_not];omega]
   rw [<- Al];simp only [Aa,Ac,Ab9,Aav];simp only [S8,Af,SG,seval,UT,SC,Cw,bT,Br,Hq,c1]
theorem EK (n:Int) (bx):Ai CC (Ad CC) 113 [.int .i64 n] bx=some (.ret (.bool (ZY n)),bx):=Ao rfl (by simp only [SA,Abs]) (NI n) rfl
def Xf (n:Int) (a b:List UInt8):Int:=if ZY n=false then 2 else if B8 a && B8 b then 0 else 10
theorem ON (n:Int) (a b:List UInt8) (ha:a.length<=1000) (hb:b.length<=1000):∃ bx,Ad CC 58 [.int .i64 n,.str a,.str b] []=some (.ret (.int .i64 (Xf n a b)),bx):=by
 rw [Ah (fn:=Aba) (c:=Aba.body.getD .skip) rfl rfl Qq rfl SJ (Ab3 rfl)];have v1:=Ci a (by omega);have v2:=Ci b (by omega);unfold Xf;by_cases d1:ZY n=false
 · rw [if_pos d1]
   rw [<- Al];have o_print_device:=@EK;rw [<- AI] at o_print_device;rw [<- AI] at v1 v2;simp only [Aa,Ac,Aba,Aav];simp only [S8,Af,SG,seval,UT,SC,Cw,bT,Br,Hq,o_print_device,v1,v2,d1];exact ⟨_,rfl⟩
 have d1':ZY n=true:=by simpa using d1
 rw [if_neg d1];generalize B8 a=p at *;generalize B8 b=q at *;cases p with
 | false=>
  rw [if_neg (by simp)];rw [<- Al];have o_print_device:=@EK;rw [<- AI] at o_print_device;rw [<- AI] at v1 v2;simp only [Aa,Ac,Aba,Aav];simp only [S8,Af,SG,seval,UT,SC,Cw,bT,Br,Hq,o_print_device,v1,v2,d1'];exact ⟨_,rfl⟩
 | true=>
  cases q with
  | false=>
   rw [if_neg (by simp)];rw [<- Al];have o_print_device:=@EK;rw [<- AI] at o_print_device;rw [<- AI] at v1 v2;simp only [Aa,Ac,Aba,Aav];simp only [S8,Af,SG,seval,UT,SC,Cw,bT,Br,Hq,o_print_device,v1,v2,d1'];exact ⟨_,rfl⟩
  | true=>
   rw [if_pos (by simp)];rw [<- Al];have o_print_device:=@EK;rw [<- AI] at o_print_device;rw [<- AI] at v1 v2;simp only [Aa,Ac,Aba,Aav];simp only [S8,Af,SG,seval,UT,SC,Cw,bT,Br,Hq,o_print_device,v1,v2,d1'];exact ⟨_,rfl⟩
theorem FA (n:Int) (a b:List UInt8) (ha:a.length<=1000) (hb:b.length<=1000) (bx):Ai CC (Ad CC) 58 [.int .i64 n,.str a,.str b] bx=some (.ret (.int .i64 (Xf n a b)),bx):=by
 obtain ⟨c,h⟩:=ON n a b ha hb;exact Ao rfl (by simp only [SA,Abs]) h rfl
def tsB (k:Int) (b1 b2 b3 b4 b5:Bool):Bool:=(b1 && !(k == 1)) || (b2 && !(k == 2)) || (b3 && !(k == 4)) || (b4 && !(k == 3 || k == 6)) || (b5 && !(k == 3))
def lB (t:Tg):Bool:=tsB t.k (!(Fj t.key (0,[],[]))) (!(Fj t.ev (0,[],[]))) (!(t.nm == [])) (t.n != 0) (t.m != 0)
def VC (t:Tg):Int:=if t.k < 1\/6 < t.k then 7 else if lB t=true then 1 else if t.k=1 then Xf t.key.1 t.key.2.1 t.key.2.2 else if t.k=2 then Xf t.ev.1 t.ev.2.1 t.ev.2.2 else
 if t.k=3 then (if 0<=t.n/\t.n < 1440/\1<=t.m/\t.m<=127 then 0 else 2) else if t.k=4 then (if t.nm=[]\/B8 t.nm=true then 0 else 10) else if t.k=6 then (if 0<=t.n/\t.n<=1099511627776 then 0 else 2) else 0
theorem SK {t:Tg} (h:GO t=true):t.nm.length<=100/\t.key.2.1.length<=100/\t.key.2.2.length<=100/\t.ev.2.1.length<=100/\t.ev.2.2.length<=100:=of_decide_eq_true h
theorem Uy:Be CC Ab1 (Ab1.body.getD .skip)=true:=by kernel_rfl
theorem SL:CC.P.funcs[32]?=some Ab1:=by kernel_rfl
def Zf (s:Sp):Int:=
 if s.k=1 then (if s.nm≠[] then 1 else if Xf s.key.1 s.key.2.1 s.key.2.2≠0 then Xf s.key.1 s.key.2.1 s.key.2.2 else Mz s.ex)
 else if s.k=2 then (if s.key.2.2≠[] then 1 else if Xf s.key.1 s.key.2.1 s.nm≠0 then Xf s.key.1 s.key.2.1 s.nm else if gB s.ex=true then 0 else Mz s.ex)
 else if s.k=3\/s.k=4\/s.k=5 then (if Fj s.key (0,[],[])=false\/gB s.ex=false then 1 else if s.k=5 then (if 60 < s.nm.length then 3 else 0) else if B8 s.nm=true then 0 else 10)
 else 7
theorem SM {s:Sp} (h:Hy s=true):s.nm.length<=100/\s.key.2.1.length<=100/\s.key.2.2.length<=100/\0<=Tn s.ex 220 30:=of_decide_eq_true h
theorem Qr (s:Sp) (hp:Hy s=true):∃ bx,Ad CC 32 [Ec s] []=some (.ret (.int .i64 (Zf s)),bx):=by
 have hl:=SM hp;unfold Zf;obtain ⟨k,key,nm,ex⟩:=s;obtain ⟨d,c,a⟩:=key;obtain ⟨l1,l2,l3,l4⟩:=hl;simp only at l1 l2 l3 l4 |-;have onn:=LX ex;have ock:=H0 ex (Vj ex 220 30 l4);have on1:=FA d c a (by omega) (by omega);have on2:=FA d c nm (by omega) (by omega);have ova:=Ci nm (by omega);have hlen:=A7 nm;have ZB:ED .neq nm []=some (.bool (!(nm == []))):=rfl;have qT:ED .neq a []=some (.bool (!(a == []))):=rfl;have heq:Mx CC 100 26 (.agg [.int .i64 d,.str c,.str a]) (.agg [.int .i64 0,.str [],.str []])=some (Fj (d,c,a) (0,[],[])):=by rw [fP];rfl
 generalize Fj (d,c,a) (0,[],[])=kz at *;generalize gB ex=nn at *;generalize Mz ex=ck at *;generalize Xf d c a=e1 at *;generalize Xf d c nm=e2 at *;generalize B8 nm=va at *;unfold Ec Vx;obtain ⟨zk,zn,zm,znm,zv,zkey,zkids⟩:=ex;unfold Bw at onn ock |-;generalize A1 zkids=zs at *;simp only [SA,Ab4,Ab8] at onn ock |-;rw [Ah (fn:=Ab1) (c:=Ab1.body.getD .skip) rfl rfl SL rfl Uy (Ab3 rfl)];by_cases k1:k=1
 · subst k1
   rw [if_pos rfl];by_cases z1:nm=[]
   · have hb:(nm == [])=true:=by rw [z1];rfl
     rw [hb] at ZB;rw [if_neg (fun h=>h z1)];by_cases z2:e1=0
     · subst z2
       rw [if_neg (fun h=>h rfl)];rw [<- Al];rw [<- AI] at onn ock on1 on2 ova;simp only [Aa,Ac,Ab1,Aav];simp only [S8,Af,SG,seval,UT,SC,Cw,Br,onn,ock,on1,on2,ova,hlen,heq,ZB];exact ⟨_,rfl⟩
     · have z2p:(e1 != 0)=true:=by simpa using z2
       rw [if_pos z2];rw [<- Al];rw [<- AI] at onn ock on1 on2 ova;simp only [Aa,Ac,Ab1,Aav];simp only [S8,Af,SG,seval,UT,SC,Cw,Br,onn,ock,on1,on2,ova,hlen,heq,ZB,z2p];exact ⟨_,rfl⟩
   · have hb:(nm == [])=false:=by simpa using z1
     rw [hb] at ZB;rw [if_pos z1];rw [<- Al];rw [<- AI] at onn ock on1 on2 ova;simp only [Aa,Ac,Ab1,Aav];simp only [S8,Af,SG,seval,UT,SC,Cw,Br,onn,ock,on1,on2,ova,hlen,heq,ZB];exact ⟨_,rfl⟩
 rw [if_neg k1];have k1p:(k == 1)=false:=by simpa using k1
 by_cases k2:k=2
 · subst k2
   rw [if_pos rfl];by_cases z1:a=[]
   · have hb:(a == [])=true:=by rw [z1];rfl
     rw [hb] at qT;rw [if_neg (fun h=>h z1)];by_cases z2:e2=0
     · subst z2
       rw [if_neg (fun h=>h rfl)];cases nn with
       | true=>
        rw [if_pos rfl];rw [<- Al];rw [<- AI] at onn ock on1 on2 ova;simp only [Aa,Ac,Ab1,Aav];simp only [S8,Af,SG,seval,UT,SC,Cw,Br,onn,ock,on1,on2,ova,hlen,heq,qT];exact ⟨_,rfl⟩
       | false=>
        rw [if_neg (by simp)];rw [<- Al];rw [<- AI] at onn ock on1 on2 ova;simp only [Aa,Ac,Ab1,Aav];simp only [S8,Af,SG,seval,UT,SC,Cw,Br,onn,ock,on1,on2,ova,hlen,heq,qT];exact ⟨_,rfl⟩
     · have z2p:(e2 != 0)=true:=by simpa using z2
       rw [if_pos z2];rw [<- Al];rw [<- AI] at onn ock on1 on2 ova;simp only [Aa,Ac,Ab1,Aav];simp only [S8,Af,SG,seval,UT,SC,Cw,Br,onn,ock,on1,on2,ova,hlen,heq,qT,z2p];exact ⟨_,rfl⟩
   · have hb:(a == [])=false:=by simpa using z1
     rw [hb] at qT;rw [if_pos z1];rw [<- Al];rw [<- AI] at onn ock on1 on2 ova;simp only [Aa,Ac,Ab1,Aav];simp only [S8,Af,SG,seval,UT,SC,Cw,Br,onn,ock,on1,on2,ova,hlen,heq,qT];exact ⟨_,rfl⟩
 rw [if_neg k2];have k2p:(k == 2)=false:=by simpa using k2
 by_cases k3:k=3
 · subst k3
   rw [if_pos (by omega)];cases kz with
   | false=>
    rw [if_pos (.inl rfl)];rw [<- Al];rw [<- AI] at onn ock on1 on2 ova;simp only [Aa,Ac,Ab1,Aav];simp only [S8,Af,SG,seval,UT,SC,Cw,Br,onn,ock,on1,on2,ova,hlen,heq];exact ⟨_,rfl⟩
   | true=>
    cases nn with
    | false=>
     rw [if_pos (.inr rfl)];rw [<- Al];rw [<- AI] at onn ock on1 on2 ova;simp only [Aa,Ac,Ab1,Aav];simp only [S8,Af,SG,seval,UT,SC,Cw,Br,onn,ock,on1,on2,ova,hlen,heq];exact ⟨_,rfl⟩
    | true=>
     rw [if_neg (by simp)];rw [if_neg (by omega)];cases va with
     | false=>
      rw [if_neg (by simp)];rw [<- Al];rw [<- AI] at onn ock on1 on2 ova;simp only [Aa,Ac,Ab1,Aav];simp only [S8,Af,SG,seval,UT,SC,Cw,Br,onn,ock,on1,on2,ova,hlen,heq];exact ⟨_,rfl⟩
     | true=>
      rw [if_pos rfl];rw [<- Al];rw [<- AI] at onn ock on1 on2 ova;simp only [Aa,Ac,Ab1,Aav];simp only [S8,Af,SG,seval,UT,SC,Cw,Br,onn,ock,on1,on2,ova,hlen,heq];exact ⟨_,rfl⟩
 have k3p:(k == 3)=false:=by simpa using k3
 by_cases k4:k=4
 · subst k4
   rw [if_pos (by omega)];cases kz with
   | false=>
    rw [if_pos (.inl rfl)];rw [<- Al];rw [<- AI] at onn ock on1 on2 ova;simp only [Aa,Ac,Ab1,Aav];simp only [S8,Af,SG,seval,UT,SC,Cw,Br,onn,ock,on1,on2,ova,hlen,heq];exact ⟨_,rfl⟩
   | true=>
    cases nn with
    | false=>
     rw [if_pos (.inr rfl)];rw [<- Al];rw [<- AI] at onn ock on1 on2 ova;simp only [Aa,Ac,Ab1,Aav];simp only [S8,Af,SG,seval,UT,SC,Cw,Br,onn,ock,on1,on2,ova,hlen,heq];exact ⟨_,rfl⟩
    | true=>
     rw [if_neg (by simp)];rw [if_neg (by omega)];cases va with
     | false=>
      rw [if_neg (by simp)];rw [<- Al];rw [<- AI] at onn ock on1 on2 ova;simp only [Aa,Ac,Ab1,Aav];simp only [S8,Af,SG,seval,UT,SC,Cw,Br,onn,ock,on1,on2,ova,hlen,heq];exact ⟨_,rfl⟩
     | true=>
      rw [if_pos rfl];rw [<- Al];rw [<- AI] at onn ock on1 on2 ova;simp only [Aa,Ac,Ab1,Aav];simp only [S8,Af,SG,seval,UT,SC,Cw,Br,onn,ock,on1,on2,ova,hlen,heq];exact ⟨_,rfl⟩
 have k4p:(k == 4)=false:=by simpa using k4
 by_cases k5:k=5
 · subst k5
   rw [if_pos (by omega)];cases kz with
   | false=>
    rw [if_pos (.inl rfl)];rw [<- Al];rw [<- AI] at onn ock on1 on2 ova;simp only [Aa,Ac,Ab1,Aav];simp only [S8,Af,SG,seval,UT,SC,Cw,Br,onn,ock,on1,on2,ova,hlen,heq];exact ⟨_,rfl⟩
   | true=>
    cases nn with
    | false=>
     rw [if_pos (.inr rfl)];rw [<- Al];rw [<- AI] at onn ock on1 on2 ova;simp only [Aa,Ac,Ab1,Aav];simp only [S8,Af,SG,seval,UT,SC,Cw,Br,onn,ock,on1,on2,ova,hlen,heq];exact ⟨_,rfl⟩
    | true=>
     rw [if_neg (by simp)];rw [if_pos rfl];by_cases z1:(nm.length:Int) > 60
     · rw [if_pos (by omega)]
       rw [<- Al];rw [<- AI] at onn ock on1 on2 ova;simp only [Aa,Ac,Ab1,Aav];simp only [S8,Af,SG,seval,UT,SC,Cw,Br,onn,ock,on1,on2,ova,hlen,heq,z1];exact ⟨_,rfl⟩
     · rw [if_neg (by omega)]
       rw [<- Al];rw [<- AI] at onn ock on1 on2 ova;simp only [Aa,Ac,Ab1,Aav];simp only [S8,Af,SG,seval,UT,SC,Cw,Br,onn,ock,on1,on2,ova,hlen,heq,z1];exact ⟨_,rfl⟩
 have k5p:(k == 5)=false:=by simpa using k5
 rw [if_neg (by omega)];rw [<- Al];rw [<- AI] at onn ock on1 on2 ova;simp only [Aa,Ac,Ab1,Aav];simp only [S8,Af,SG,seval,UT,SC,Cw,Br,onn,ock,on1,on2,ova,hlen,heq,k1p,k2p,k3p,k4p,k5p];exact ⟨_,rfl⟩
theorem Uz (s:Sp) (hp:Hy s=true) (bx):Ai CC (Ad CC) 32 [Ec s] bx=some (.ret (.int .i64 (Zf s)),bx):=by
 obtain ⟨b,h⟩:=Qr s hp;exact Ao rfl (by simp only [AK,Hp,Bk,Abd]) h rfl
theorem SN:Be CC Ab2 (Ab2.body.getD .skip)=true:=by kernel_rfl
theorem Qs:CC.P.funcs[11]?=some Ab2:=by kernel_rfl
def ZZ {α:Type} (f:α->Int):List α->Int
 | []=>0
 | x :: r=>if f x≠0 then f x else ZZ f r
def pC (j:Nat) (bx:List PBox) (v:Int) (res:Option (Ex×St)):Prop:=∃ e' ex,(v=0/\res=some (.exit j,⟨e',bx++ex⟩)/\getT e' 1=.bp 0 0)\/(v≠0/\res=some (.ret,⟨e',bx++ex⟩)/\getT e' 2=.int .i64 v)
theorem pC.app {j:Nat} {bx:List PBox} {x:PBox} {v:Int} {res:Option (Ex×St)} (h:pC j (bx++[x]) v res):pC j bx v res:=by
 obtain ⟨e',ex,h⟩:=h;refine ⟨e',[x]++ex,?_⟩;rw [<- Abl];exact h
theorem lC (L:Code) (hL:L=Aa Ab2 [1,1,1,1,0,1,0]) (l:List Tg) (hl:l.length<=12) (hc:∀ t ∈ l,∀ bx,Ai CC (Ad CC) 30 [BE t] bx=some (.ret (.int .i64 (VC t)),bx)):∀ (k i:Nat) (e:List PV) (bx:List PBox) ,i+k=l.length ->
 getT e 1=.bp 0 0->getT e 45=.sl (l.map BE)->getT e 46=.int .i64 l.length->getT e 47=.int .i64 i->pC 0 bx (ZZ VC (l.drop i)) (Cf CC L ⟨e,bx⟩):=by
 intro k
 induction k with
 | zero=>
  intro i e bx DK e1 es el ei;rw [AX (Aa Ab2 [1,1,1,1,0,1,0,0]) hL];have hi:¬ ((i:Int) < (l.length:Int)):=by omega
  rw [Ab7 (by omega)];unfold ZZ;generalize l.map BE=xs at *;rw [<- Al];simp only [Aa,Ac,Ab2,Aav];simp only [S8,Af,SG,seval,UT,SC,L1,Pv,Aau,e1,es,el,ei,hi];exact ⟨_,[],.inl ⟨rfl,by rw [Abf],by simp only [S7,Af,seval,e1]⟩⟩
 | succ k ih=>
  intro i e bx DK e1 es el ei;rw [AX (Aa Ab2 [1,1,1,1,0,1,0,0]) hL];have hi:((i:Int) < (l.length:Int)):=by omega
  have C4:¬ ((i:Int) < 0):=by omega
  have G1:l.drop i=(l[i]'(by omega)) :: l.drop (i+1):=Ab5 (by omega);have hx:(l.map BE)[i]?=some (BE (l[i]'(by omega))):=by rw [Abc,Ab6 (by omega)];rfl
  have I5:=wrap_i64 (n:=(i:Int)+1) ⟨by omega,by omega⟩;have Bb:=hc (l[i]'(by omega)) (Abm _);have key:=fun e bx=>ih (i+1) e bx (by omega);have cast1:((i+1:Nat):Int)=(i:Int)+1:=by omega
  rw [cast1] at key;rw [G1];unfold ZZ;generalize l[i]'(by omega)=x at *;generalize ZZ VC (l.drop (i+1))=v at *;generalize VC x=er at *;generalize l.map BE=xs at *;obtain ⟨xk,xkey,xev,xnm,xn,xm⟩:=x;obtain ⟨xd,xcl,xat⟩:=xkey;obtain ⟨yd,yc,yn⟩:=xev;unfold BE at hx Bb;simp only at hx Bb;by_cases c1:er=0
  · subst c1
    rw [if_neg (by simp)];apply pC.app;rw [<- Al];rw [<- Al] at key;rw [<- AI] at Bb;simp only [Aa,Ac,Ab2,Aav];simp only [S8,Af,SG,seval,UT,SC,L1,Pv,Aau,e1,es,el,ei,hi,C4,hx,I5,Bb];refine key _ _ ?_ ?_ ?_ ?_
    all_goals simp only [S7,Af,seval,e1,es,el,ei]
  · have c1p:(er != 0)=true:=by simpa using c1
    rw [if_pos c1];rw [<- Al];rw [<- AI] at Bb;simp only [Aa,Ac,Ab2,Aav];simp only [S8,Af,SG,seval,UT,SC,L1,Pv,Aau,e1,es,el,ei,hi,C4,hx,Bb,c1p];exact ⟨_,_,.inr ⟨c1,rfl,by simp only [S7,Af,seval]⟩⟩
theorem lD (L:Code) (hL:L=Aa Ab2 [1,1,1,1,1,1,0,1,0]) (l:List Sp) (hl:l.length<=12) (hc:∀ t ∈ l,∀ bx,Ai CC (Ad CC) 32 [Ec t] bx=some (.ret (.int .i64 (Zf t)),bx)):∀ (k i:Nat) (e:List PV) (bx:List PBox) ,i+k=l.length ->
 getT e 1=.bp 0 0->getT e 64=.sl (l.map Ec)->getT e 65=.int .i64 l.length->getT e 66=.int .i64 i->pC 2 bx (ZZ Zf (l.drop i)) (Cf CC L ⟨e,bx⟩):=by
 intro k
 induction k with
 | zero=>
  intro i e bx DK e1 es el ei;rw [AX (Aa Ab2 [1,1,1,1,1,1,0,1,0,0]) hL];have hi:¬ ((i:Int) < (l.length:Int)):=by omega
  rw [Ab7 (by omega)];unfold ZZ;generalize l.map Ec=xs at *;rw [<- Al];simp only [Aa,Ac,Ab2,Aav];simp only [S8,Af,SG,seval,UT,SC,L1,Pv,Aau,e1,es,el,ei,hi];exact ⟨_,[],.inl ⟨rfl,by rw [Abf],by simp only [S7,Af,seval,e1]⟩⟩
 | succ k ih=>
  intro i e bx DK e1 es el ei;rw [AX (Aa Ab2 [1,1,1,1,1,1,0,1,0,0]) hL];have hi:((i:Int) < (l.length:Int)):=by omega
  have C4:¬ ((i:Int) < 0):=by omega
  have G1:l.drop i=(l[i]'(by omega)) :: l.drop (i+1):=Ab5 (by omega);have hx:(l.map Ec)[i]?=some (Ec (l[i]'(by omega))):=by rw [Abc,Ab6 (by omega)];rfl
  have I5:=wrap_i64 (n:=(i:Int)+1) ⟨by omega,by omega⟩;have Bb:=hc (l[i]'(by omega)) (Abm _);have key:=fun e bx=>ih (i+1) e bx (by omega);have cast1:((i+1:Nat):Int)=(i:Int)+1:=by omega
  rw [cast1] at key;rw [G1];unfold ZZ;generalize l[i]'(by omega)=x at *;generalize ZZ Zf (l.drop (i+1))=v at *;generalize Zf x=er at *;generalize l.map Ec=xs at *;obtain ⟨xk,xkey,xnm,xt⟩:=x;obtain ⟨xd,xcl,xat⟩:=xkey;unfold Ec Vx at hx Bb;obtain ⟨zk,zn,zm,znm,zv,zkey,zkids⟩:=xt;unfold Bw at hx Bb;simp only [SA,Ab4,Ab8] at hx Bb;generalize A1 zkids=zs at *;by_cases c1:er=0
  · subst c1
    rw [if_neg (by simp)];apply pC.app;rw [<- Al];rw [<- Al] at key;rw [<- AI] at Bb;simp only [Aa,Ac,Ab2,Aav];simp only [S8,Af,SG,seval,UT,SC,L1,Pv,Aau,e1,es,el,ei,hi,C4,hx,I5,Bb];refine key _ _ ?_ ?_ ?_ ?_
    all_goals simp only [S7,Af,seval,e1,es,el,ei]
  · have c1p:(er != 0)=true:=by simpa using c1
    rw [if_pos c1];rw [<- Al];rw [<- AI] at Bb;simp only [Aa,Ac,Ab2,Aav];simp only [S8,Af,SG,seval,UT,SC,L1,Pv,Aau,e1,es,el,ei,hi,C4,hx,Bb,c1p];exact ⟨_,_,.inr ⟨c1,rfl,by simp only [S7,Af,seval]⟩⟩
def XJ (r:Rl):Int:=if B8 r.nm=false then 10 else if r.pr < 0\/100 < r.pr then 2 else if r.on.length < 1\/8 < r.on.length\/r.dos.length < 1\/8 < r.dos.length then 3 else
 if ZZ VC r.on≠0 then ZZ VC r.on else if Mz r.ife≠0 then Mz r.ife else ZZ Zf r.dos
theorem SO {r:Rl} (h:Ig r=true):r.nm.length<=100/\r.on.length<=12/\r.dos.length<=12/\0<=Tn r.ife 220 30/\(∀ t ∈ r.on,GO t=true)/\∀ s ∈ r.dos,Hy s=true:=by
 unfold Ig at h;rw [Abh,Abh,Abn,Abn] at h;obtain ⟨⟨h1,h2⟩,h3⟩:=h;have h1:=of_decide_eq_true h1;exact ⟨h1.1,h1.2.1,h1.2.2.1,h1.2.2.2,h2,h3⟩
theorem OO (hT:∀ t,GO t=true->∀ bx,Ai CC (Ad CC) 30 [BE t] bx=some (.ret (.int .i64 (VC t)),bx)) (r:Rl) (hp:Ig r=true):∃ bx,Ad CC 11 [Dw r] []=some (.ret (.int .i64 (XJ r)),bx):=by
 obtain ⟨g1,g2,g3,g4,g5,g6⟩:=SO hp;unfold XJ;obtain ⟨nm,pr,on,ife,dos⟩:=r;simp only at g1 g2 g3 g4 g5 g6 |-;have ova:=Ci nm (by omega);have ock:=H0 ife (Vj ife 220 30 g4);have lon:(on.map BE).length=on.length:=Abe _;have ldo:(dos.map Ec).length=dos.length:=Abe _;have Bv:=fun e bx=>lC _ rfl on (by omega) (fun t ht=>hT t (g5 t ht)) on.length 0 e bx (by omega);have QV:=fun e bx=>lD _ rfl dos (by omega) (fun s hs=>Uz s (g6 s hs)) dos.length 0 e bx (by omega);rw [Abo] at Bv QV;generalize B8 nm=va at *;generalize Mz ife=ck at *;generalize ZZ VC on=f1 at *;generalize ZZ Zf dos=f2 at *;unfold Dw Vx;obtain ⟨zk,zn,zm,znm,zv,zkey,zkids⟩:=ife;unfold Bw at ock |-;simp only [SA,Ab4,Ab8] at ock |-;generalize A1 zkids=zs at *;generalize on.map BE=xs at *;generalize dos.map Ec=ys at *;rw [Ah (fn:=Ab2) (c:=Ab2.body.getD .skip) rfl rfl Qs rfl SN (Ab3 rfl)];cases va with
 | false=>
  rw [if_pos rfl];rw [<- Al];rw [<- AI] at ova ock;simp only [Aa,Ac,Ab2,Aav];simp only [S8,Af,SG,seval,UT,SC,ova,ock,lon,ldo];exact ⟨_,rfl⟩
 | true=>
  by_cases c0:pr < 0
  · rw [if_neg (by simp),if_pos (by omega)]
    rw [<- Al];rw [<- AI] at ova ock;simp only [Aa,Ac,Ab2,Aav];simp only [S8,Af,SG,seval,UT,SC,ova,ock,lon,ldo,c0];exact ⟨_,rfl⟩
  by_cases c1:pr > 100
  · rw [if_neg (by simp),if_pos (by omega)]
    rw [<- Al];rw [<- AI] at ova ock;simp only [Aa,Ac,Ab2,Aav];simp only [S8,Af,SG,seval,UT,SC,ova,ock,lon,ldo,c0,c1];exact ⟨_,rfl⟩
  by_cases d0:(on.length:Int) < 1
  · rw [if_neg (by simp),if_neg (by omega),if_pos (by omega)]
    rw [<- Al];rw [<- AI] at ova ock;simp only [Aa,Ac,Ab2,Aav];simp only [S8,Af,SG,seval,UT,SC,ova,ock,lon,ldo,c0,c1,d0];exact ⟨_,rfl⟩
  by_cases d1:(on.length:Int) > 8
  · rw [if_neg (by simp),if_neg (by omega),if_pos (by omega)]
    rw [<- Al];rw [<- AI] at ova ock;simp only [Aa,Ac,Ab2,Aav];simp only [S8,Af,SG,seval,UT,SC,ova,ock,lon,ldo,c0,c1,d0,d1];exact ⟨_,rfl⟩
  by_cases d2:(dos.length:Int) < 1
  · rw [if_neg (by simp),if_neg (by omega),if_pos (by omega)]
    rw [<- Al];rw [<- AI] at ova ock;simp only [Aa,Ac,Ab2,Aav];simp only [S8,Af,SG,seval,UT,SC,ova,ock,lon,ldo,c0,c1,d0,d1,d2];exact ⟨_,rfl⟩
  by_cases d3:(dos.length:Int) > 8
  · rw [if_neg (by simp),if_neg (by omega),if_pos (by omega)]
    rw [<- Al];rw [<- AI] at ova ock;simp only [Aa,Ac,Ab2,Aav];simp only [S8,Af,SG,seval,UT,SC,ova,ock,lon,ldo,c0,c1,d0,d1,d2,d3];exact ⟨_,rfl⟩
  rw [if_neg (by simp),if_neg (by omega),if_neg (by omega)];rw [<- Al];rw [<- AI] at ova ock;rw [<- Al] at Bv QV;simp only [Aa,Ac,Ab2,Aav] at Bv QV |-;simp only [S8,Af,SG,seval,UT,SC,ova,ock,lon,ldo,c0,c1,d0,d1,d2,d3];generalize hE:GM (Abj _) _=z
  have hP:pC 0 [.cells 32 [.str nm,.int .i64 pr,.sl xs,.int .i64 zk,.int .i64 zn,.int .i64 zm,.str znm,.int .i64 zv.1,.int .i64 zv.2.1,.str zv.2.2,.int .i64 zkey.1,.str zkey.2.1,.str zkey.2.2,.sl zs,.sl ys]] f1 z:=by
   rw [<- hE];refine Bv _ _ ?_ ?_ ?_ ?_
   all_goals first | (simp only [S7,Af,seval];done) | (simp only [S7,Af,seval] <;> rfl)
  obtain ⟨e',ex,⟨hv,he,q1⟩ | ⟨hv,he,q2⟩⟩:=hP
  · subst he
    subst hv;rw [if_neg (by simp)];by_cases k1:ck=0
    · subst k1
      rw [if_neg (by simp)];simp only [S8,Af,SG,seval,UT,SC,q1,ldo,ock];generalize vE:GM (Abj _) _=z2
      have vF:pC 2 (.cells 32 [.str nm,.int .i64 pr,.sl xs,.int .i64 zk,.int .i64 zn,.int .i64 zm,.str znm,.int .i64 zv.1,.int .i64 zv.2.1,.str zv.2.2,.int .i64 zkey.1,.str zkey.2.1,.str zkey.2.2,.sl zs,.sl ys] :: ex) f2 z2:=by
       rw [<- vE];refine QV _ _ ?_ ?_ ?_ ?_
       all_goals first | (simp only [S7,Af,seval,q1];done) | (simp only [S7,Af,seval,q1] <;> rfl)
      obtain ⟨e2,iB,⟨Z5,nC,q3⟩ | ⟨Z5,nC,q4⟩⟩:=vF
      · subst nC
        subst Z5;simp only [S8,Af,seval];exact ⟨_,rfl⟩
      · subst nC
        simp only [S8,Af,seval,q4];exact ⟨_,rfl⟩
    · have k1p:(ck != 0)=true:=by simpa using k1
      rw [if_pos k1];simp only [S8,Af,SG,seval,UT,SC,q1,ldo,ock,k1p];exact ⟨_,rfl⟩
  · subst he
    rw [if_pos hv];simp only [S8,Af,seval,q2];exact ⟨_,rfl⟩
end Go.HH
