/-
  What the law needs, packed: T7 T8 T9 T10 E11 E12 E13 E14 E15 E16 E17 E18 E19 D5.
-/
import Derived.Test.YthjcaihemgllaaaGreatDoorJ45
open Option renaming getD->Aa0
open List renaming getElem?_concat_length->Aa1,length_cons->Aa2,length_nil->Aa4,set_cons_zero->Aa9,set_cons_succ->Aaa,cons_append->Aah,length_singleton->Aai,nil_append->Aak,drop_eq_getElem_cons->Aal,mem_cons->Aan,getElem?_eq_getElem->Aao,drop_eq_nil_of_le->Aaq,length_append->Aar,getElem?_map->Aas,append_assoc->Aat,getElem_mem->Aau,all_eq_true->Aav,length_map->Aaw,append_nil->Aax,map_cons->Aay
open Int renaming reduceEq->Aa3
open Go.Proofs.Tryz renaming f32->Aa5,f11->Aa6,f30->Aa7,f57->Aa8,f113->Aae,f58->Aaf,f37->Aag
open Nat renaming le_of_ble_eq_true->Aab
open Bool renaming and_assoc->Aac,and_self->Aad,and_eq_true->Aaj,and_true->Aap
open BEq renaming comm->Aam
namespace Go.HH
open Go Go.Proofs
set_option maxRecDepth 100000
set_option maxHeartbeats 4000000
set_option linter.unusedSimpArgs false
set_option linter.unusedVariables false
theorem WT (n m:Int) (nm:List UInt8) (v:Vl) (key:Ky) (kids:List Tr) (hv:Ek 14 kids.length=true) (hk:∀ t ∈ kids,Nt t/\(TX t).length<=200000):∃ bx,Ad CC 37 [BE (.mk 14 n m nm v key kids)] []=some (.ret (.tup [.str (TX (.mk 14 n m nm v key kids)),.int .i64 (LV (.mk 14 n m nm v key kids))]),bx):=by
 obtain ⟨a,c,d,rfl⟩:=YL hv;have e1:TX (.mk 14 n m nm v key [a,c,d])=cat (cat (cat (cat (cat [105,102,32] (EN (an a) 0)) [32,116,104,101,110,32]) (EN (an c) 0)) [32,101,108,115,101,32]) (EN (an d) 0):=by rw [FO];unfold Le;simp only [Aa3,if_true,if_false];try rfl
 have e2:LV (.mk 14 n m nm v key [a,c,d])=0:=by rw [Hj];unfold WL;simp only [Aa3,if_true,if_false];try rfl
 rw [e1,e2];have o1:=H9 a (hk a (by simp)).1 (hk a (by simp)).2 0;have o2:=H9 c (hk c (by simp)).1 (hk c (by simp)).2 0;have o3:=H9 d (hk d (by simp)).1 (hk d (by simp)).2 0;have l1:=Dl (an a) 0;have l2:=Dl (an c) 0;have l3:=Dl (an d) 0;have m1:(an a).s.length<=200000:=(hk a (by simp)).2;have m2:(an c).s.length<=200000:=(hk c (by simp)).2;have m3:(an d).s.length<=200000:=(hk d (by simp)).2;clear e1 e2 hk;generalize EN (an a) 0=s1 at *;generalize EN (an c) 0=s2 at *;generalize EN (an d) 0=s3 at *;have c1:=Cp (a:=[105,102,32]) (b:=s1) (by simp only [Aa2,Aa4];omega);have c2:=Cp (a:=cat [105,102,32] s1) (b:=[32,116,104,101,110,32]) (by simp only [AD,Aa2,Aa4];omega);have c3:=Cp (a:=cat (cat [105,102,32] s1) [32,116,104,101,110,32]) (b:=s2) (by simp only [AD,Aa2,Aa4];omega);have c4:=Cp (a:=cat (cat (cat [105,102,32] s1) [32,116,104,101,110,32]) s2) (b:=[32,101,108,115,101,32]) (by simp only [AD,Aa2,Aa4];omega);have c5:=Cp (a:=cat (cat (cat (cat [105,102,32] s1) [32,116,104,101,110,32]) s2) [32,101,108,115,101,32]) (b:=s3) (by simp only [AD,Aa2,Aa4];omega);clear l1 l2 l3 m1 m2 m3;obtain ⟨ak,an,am,anm,av,akey,akids⟩:=a;obtain ⟨ck,cn,cm,cnm,cv,ckey,ckids⟩:=c;obtain ⟨dk,dn,dm,dnm,dv,dkey,dkids⟩:=d;simp only [BE,A8] at o1 o2 o3 |-;have q1:=AY akids;have q2:=AY ckids
 have q3:=AY dkids;generalize A8 akids=xs at *;generalize A8 ckids=ys at *;generalize A8 dkids=zs at *;rw [Ba rfl];rw [<- An];rw [<- AL] at o1 o2 o3;simp only [Ab,Ac,Aag,Aa0];simp only [S9,Ag,seval,LG,Ph,Aa1,o1,o2,o3,c1,c2,c3,c4,c5,q1,q2,q3];exact ⟨_,rfl⟩
theorem YQ (n m:Int) (nm:List UInt8) (v:Vl) (key:Ky) (kids:List Tr) (a:Tr) (rm:kids=[a]) (hng:zF a):∃ bx,Ad CC 37 [BE (.mk 6 n m nm v key kids)] []=some (.ret (.tup [.str (TX (.mk 6 n m nm v key kids)),.int .i64 (LV (.mk 6 n m nm v key kids))]),bx):=by
 subst rm;have e1:TX (.mk 6 n m nm v key [a])=Vk (J4 a) (an a):=by rw [FO];unfold Le;simp only [Aa3,if_true,if_false];try rfl
 have e2:LV (.mk 6 n m nm v key [a])=ko (J4 a):=by rw [Hj];unfold WL;simp only [Aa3,if_true,if_false];try rfl
 rw [e1,e2];have o1:=hng;unfold zF at o1;clear e1 e2 hng;generalize Vk (J4 a) (an a)=s at *;generalize ko (J4 a)=lv at *;obtain ⟨ak,an,am,anm,av,akey,akids⟩:=a;simp only [BE,A8] at o1 |-;have q1:=AY akids;generalize A8 akids=xs at *;rw [Ba rfl];rw [<- An];rw [<- AL] at o1;simp only [Ab,Ac,Aag,Aa0];simp only [S9,Ag,seval,LG,Ph,Aa1,o1,q1];exact ⟨_,rfl⟩
theorem WU (n m:Int) (nm:List UInt8) (v:Vl) (key:Ky) (kids:List Tr) (hv:Ek 12 kids.length=true) (hk:∀ t ∈ kids,Nt t/\(TX t).length<=200000):∃ bx,Ad CC 37 [BE (.mk 12 n m nm v key kids)] []=some (.ret (.tup [.str (TX (.mk 12 n m nm v key kids)),.int .i64 (LV (.mk 12 n m nm v key kids))]),bx):=by
 obtain ⟨a,c,rfl⟩:=Fz (k:=12) (by omega) hv;have e1:TX (.mk 12 n m nm v key [a,c])=(if gh [a,c] then cat [45] (EN (an c) 7) else Nq (an a) 5 [45] (an c) 6):=by rw [FO];unfold Le;simp only [Aa3,if_true,if_false];try rfl
 have e2:LV (.mk 12 n m nm v key [a,c])=(if gh [a,c] then 7 else 5):=by rw [Hj];unfold WL;simp only [Aa3,if_true,if_false];try rfl
 rw [e1,e2];have o1:=Jo a c (hk a (by simp)).1 (hk c (by simp)).1 (hk a (by simp)).2 (hk c (by simp)).2 5 6 [45] (by decide);have o2:=H9 c (hk c (by simp)).1 (hk c (by simp)).2 7;have o3:=kA 12 n m nm v key a c;have l2:=Dl (an c) 7;have m2:(an c).s.length<=200000:=(hk c (by simp)).2;clear e1 e2 hk;generalize Nq (an a) 5 [45] (an c) 6=s at *;generalize EN (an c) 7=s2 at *;have c1:=Cp (a:=[45]) (b:=s2) (by simp only [Aa2,Aa4];omega);clear l2 m2;generalize gh [a,c]=q at *;obtain ⟨ak,an',am,anm,av,akey,akids⟩:=a;obtain ⟨ck,cn,cm,cnm,cv,ckey,ckids⟩:=c;simp only [BE,A8] at o1 o2 o3 |-;have q1:=AY akids;have q2:=AY ckids;generalize A8 akids=xs at *;generalize A8 ckids=ys at *;rw [Ba rfl];cases q with
 | true=>
  rw [if_pos rfl,if_pos rfl];rw [<- An];rw [<- AL] at o1 o2 o3;simp only [Ab,Ac,Aag,Aa0];simp only [S9,Ag,seval,LG,Ph,Aa1,o1,o2,o3,c1,q1,q2];exact ⟨_,rfl⟩
 | false=>
  rw [if_neg (by simp),if_neg (by simp)];rw [<- An];rw [<- AL] at o1 o2 o3;simp only [Ab,Ac,Aag,Aa0];simp only [S9,Ag,seval,LG,Ph,Aa1,o1,o2,o3,c1,q1,q2];exact ⟨_,rfl⟩
theorem YR (n m:Int) (nm:List UInt8) (v:Vl) (key:Ky) (kids:List Tr) (hr:E' 2 n m key.1=true) (hd:Dx key.1) (l1:nm.length<=100) (l2:key.2.1.length<=100) (l3:key.2.2.length<=100):∃ bx,Ad CC 37 [BE (.mk 2 n m nm v key kids)] []=some (.ret (.tup [.str (TX (.mk 2 n m nm v key kids)),.int .i64 (LV (.mk 2 n m nm v key kids))]),bx):=by
 have e1:TX (.mk 2 n m nm v key kids)=KV 2 n m nm key:=by rw [FO];unfold Le;simp only [Aa3,if_true,if_false]
 have e2:LV (.mk 2 n m nm v key kids)=8:=by rw [Hj];unfold WL;simp only [Aa3,if_true,if_false]
 rw [e1,e2];have o1:=Hh 2 n m nm v key kids (by omega) hr hd l1 l2 l3;clear e1 e2 hr hd l1 l2 l3;generalize KV 2 n m nm key=s at *;simp only [BE] at o1 |-;generalize A8 kids=xs at *;rw [Ba rfl];rw [<- An];rw [<- AL] at o1;simp only [Ab,Ac,Aag,Aa0];simp only [S9,Ag,seval,LG,Ph,Aa1,o1];exact ⟨_,rfl⟩
theorem YS (n m:Int) (nm:List UInt8) (v:Vl) (key:Ky) (kids:List Tr) (hr:E' 3 n m key.1=true) (hd:Dx key.1) (l1:nm.length<=100) (l2:key.2.1.length<=100) (l3:key.2.2.length<=100):∃ bx,Ad CC 37 [BE (.mk 3 n m nm v key kids)] []=some (.ret (.tup [.str (TX (.mk 3 n m nm v key kids)),.int .i64 (LV (.mk 3 n m nm v key kids))]),bx):=by
 have e1:TX (.mk 3 n m nm v key kids)=KV 3 n m nm key:=by rw [FO];unfold Le;simp only [Aa3,if_true,if_false]
 have e2:LV (.mk 3 n m nm v key kids)=8:=by rw [Hj];unfold WL;simp only [Aa3,if_true,if_false]
 rw [e1,e2];have o1:=Hh 3 n m nm v key kids (by omega) hr hd l1 l2 l3;clear e1 e2 hr hd l1 l2 l3;generalize KV 3 n m nm key=s at *;simp only [BE] at o1 |-;generalize A8 kids=xs at *;rw [Ba rfl];rw [<- An];rw [<- AL] at o1;simp only [Ab,Ac,Aag,Aa0];simp only [S9,Ag,seval,LG,Ph,Aa1,o1];exact ⟨_,rfl⟩
theorem YT (n m:Int) (nm:List UInt8) (v:Vl) (key:Ky) (kids:List Tr) (hr:E' 4 n m key.1=true) (hd:Dx key.1) (l1:nm.length<=100) (l2:key.2.1.length<=100) (l3:key.2.2.length<=100):∃ bx,Ad CC 37 [BE (.mk 4 n m nm v key kids)] []=some (.ret (.tup [.str (TX (.mk 4 n m nm v key kids)),.int .i64 (LV (.mk 4 n m nm v key kids))]),bx):=by
 have e1:TX (.mk 4 n m nm v key kids)=KV 4 n m nm key:=by rw [FO];unfold Le;simp only [Aa3,if_true,if_false]
 have e2:LV (.mk 4 n m nm v key kids)=8:=by rw [Hj];unfold WL;simp only [Aa3,if_true,if_false]
 rw [e1,e2];have o1:=Hh 4 n m nm v key kids (by omega) hr hd l1 l2 l3;clear e1 e2 hr hd l1 l2 l3;generalize KV 4 n m nm key=s at *;simp only [BE] at o1 |-;generalize A8 kids=xs at *;rw [Ba rfl];rw [<- An];rw [<- AL] at o1;simp only [Ab,Ac,Aag,Aa0];simp only [S9,Ag,seval,LG,Ph,Aa1,o1];exact ⟨_,rfl⟩
theorem YU (n m:Int) (nm:List UInt8) (v:Vl) (key:Ky) (kids:List Tr) (hr:E' 5 n m key.1=true) (hd:Dx key.1) (l1:nm.length<=100) (l2:key.2.1.length<=100) (l3:key.2.2.length<=100):∃ bx,Ad CC 37 [BE (.mk 5 n m nm v key kids)] []=some (.ret (.tup [.str (TX (.mk 5 n m nm v key kids)),.int .i64 (LV (.mk 5 n m nm v key kids))]),bx):=by
 have e1:TX (.mk 5 n m nm v key kids)=KV 5 n m nm key:=by rw [FO];unfold Le;simp only [Aa3,if_true,if_false]
 have e2:LV (.mk 5 n m nm v key kids)=8:=by rw [Hj];unfold WL;simp only [Aa3,if_true,if_false]
 rw [e1,e2];have o1:=Hh 5 n m nm v key kids (by omega) hr hd l1 l2 l3;clear e1 e2 hr hd l1 l2 l3;generalize KV 5 n m nm key=s at *;simp only [BE] at o1 |-;generalize A8 kids=xs at *;rw [Ba rfl];rw [<- An];rw [<- AL] at o1;simp only [Ab,Ac,Aag,Aa0];simp only [S9,Ag,seval,LG,Ph,Aa1,o1];exact ⟨_,rfl⟩
theorem WV (n m:Int) (nm:List UInt8) (v:Vl) (key:Ky) (kids:List Tr) (hr:E' 15 n m key.1=true) (hd:Dx key.1) (l1:nm.length<=100) (l2:key.2.1.length<=100) (l3:key.2.2.length<=100):∃ bx,Ad CC 37 [BE (.mk 15 n m nm v key kids)] []=some (.ret (.tup [.str (TX (.mk 15 n m nm v key kids)),.int .i64 (LV (.mk 15 n m nm v key kids))]),bx):=by
 have e1:TX (.mk 15 n m nm v key kids)=KV 15 n m nm key:=by rw [FO];unfold Le;simp only [Aa3,if_true,if_false]
 have e2:LV (.mk 15 n m nm v key kids)=8:=by rw [Hj];unfold WL;simp only [Aa3,if_true,if_false]
 rw [e1,e2];have o1:=Hh 15 n m nm v key kids (by omega) hr hd l1 l2 l3;clear e1 e2 hr hd l1 l2 l3;generalize KV 15 n m nm key=s at *;simp only [BE] at o1 |-;generalize A8 kids=xs at *;rw [Ba rfl];rw [<- An];rw [<- AL] at o1;simp only [Ab,Ac,Aag,Aa0];simp only [S9,Ag,seval,LG,Ph,Aa1,o1];exact ⟨_,rfl⟩
theorem oB (k n m:Int) (nm:List UInt8) (key:Ky) (hk:k=2\/k=3\/k=4\/k=5\/k=15) (hr:E' k n m key.1=true) (hd:Dx key.1) (l1:nm.length<=100) (l2:key.2.1.length<=100) (l3:key.2.2.length<=100):(KV k n m nm key).length<=300:=by
 have hi:=Dk hd;have yN:∀ w ∈ bc,w.length=3:=by decide
 have hdy:∀ (l:List (List UInt8)) (q:Nat),(∀ w ∈ l,w.length=3)->(WI q l).length<=4 * l.length:=by
  intro l
  induction l with
  | nil=>intro q _;simp [WI]
  | cons w r ih=>
   intro q hw;have h3:=hw w List.mem_cons_self;have hr:=ih (q / 2) (fun x hx=>hw x (List.mem_cons_of_mem _ hx));unfold WI;split
   · split
     · simp only [Aa2];omega
     · simp only [Aar,Aa2];omega
   · simp only [Aa2];omega
 have hQ:=hdy bc n.toNat yN;have h7:bc.length=7:=rfl;unfold KV;split
 · unfold E8
   simp only [AD,Aai];omega
 split
 · simp only [AD,Aa2,Aa4]
   omega
 split
 · have e1:(FL n.toNat).length=5:=rfl
   have e2:(FL m.toNat).length=5:=rfl;simp only [AD,Aa2,Aa4,e1,e2];omega
 split
 · unfold P7
   simp only [Aar,Aa2,Aa4];omega
 · unfold kj
   split <;> decide
theorem su (v:Vl) (h:Dx v.2.1):(ZB v).length<=300:=by
 unfold ZB;have hi:=Dk h;split
 · simp
 · rename_i hc
   have hk:=ba (v:=v) (by omega);split
   · decide
   · split
     · split <;> decide
     · split
       · omega
       · split
         · simp only [Aa2];omega
         · have:=Wb v.2.2
           have:=EE v.2.2;omega
theorem Vn {k n m:Int} {nm:List UInt8} {v:Vl} {key:Ky} {kids:List Tr} (h:S6 (.mk k n m nm v key kids)=0):1<=k/\k<=15/\Ek k kids.length=true/\E' k n m key.1=true/\(k=1->JL v=0/\v.1≠0):=by
 unfold S6 at h;dsimp only at h;by_cases h1:k < 1\/15 < k
 · rw [if_pos h1] at h;simp at h
 rw [if_neg h1] at h;by_cases h2:Ek k kids.length=false\/aA (.mk k n m nm v key kids)=true
 · rw [if_pos h2] at h;simp at h
 rw [if_neg h2] at h;by_cases h3:E' k n m key.1=false
 · rw [if_pos h3] at h;simp at h
 rw [if_neg h3] at h
 have b2:Ek k kids.length=true:=by
  cases hb:Ek k kids.length with
  | true=>rfl
  | false=>exact absurd (.inl hb) h2
 have b3:E' k n m key.1=true:=by
  cases hb:E' k n m key.1 with
  | true=>rfl
  | false=>exact absurd hb h3
 refine ⟨by omega,by omega,b2,b3,fun hk=>?_⟩;rw [if_neg (by omega),if_neg (by omega),if_pos hk] at h;by_cases hc:JL v≠0
 · rw [if_pos hc] at h;exact absurd h hc
 rw [if_neg hc] at h;by_cases h0:v.1=0
 · rw [if_pos h0] at h;simp at h
 exact ⟨by omega,h0⟩
theorem qL {k:Int} {l:List Tr} (hk:1<=k/\k<=15) (h:Ek k l.length=true):l.length<=8:=by
 unfold Ek at h;split at h
 · have:=eq_of_beq h;omega
 split at h
 · rw [Aaj] at h
   have:=of_decide_eq_true h.2;omega
 split at h
 · have:=eq_of_beq h;omega
 split at h
 · have:=eq_of_beq h;omega
 · have:=eq_of_beq h;omega
def bl:List Tr->Nat
 | []=>0
 | t :: r=>(TX t).length+20+bl r
theorem WW (op:List UInt8) (ho:op.length<=10) (least:Int):∀ (l:List Tr) (i:Nat) (acc:List UInt8),(Hi op least (HL l) i acc).length<=acc.length+bl l
 | [],i,acc=>by unfold HL Hi bl;omega
 | t :: r,i,acc=>by
  unfold HL Hi bl;have h:=WW op ho least r (i+1) (cat (if 0 < i then cat acc (cat (cat [32] op) [32]) else acc) (EN (an t) least));have k:=Dl (an t) least;have e:TX t=(an t).s:=rfl;rw [e]
  have h2:(if 0 < i then cat acc (cat (cat [32] op) [32]) else acc).length<=acc.length+12:=by
   split <;> (try simp only [AD,Aai]) <;> omega
  rw [AD] at h;omega
theorem sw {k n m:Int} {nm:List UInt8} {v:Vl} {key:Ky} {kids:List Tr} (hv:Ek k kids.length=true):(Vk k (an (.mk k n m nm v key kids))).length<=(TX (.mk k n m nm v key kids)).length+7:=by
 unfold Vk;by_cases k9:k=9
 · subst k9
   obtain ⟨a,c,rfl⟩:=Fz (k:=9) (by omega) hv;rw [if_pos rfl,Vm,FO];unfold Le;simp only [Aa3,if_true,if_false];simp only [Nq,EO,AD,Aa2,Aa4];omega
 by_cases k10:k=10
 · subst k10
   obtain ⟨a,c,rfl⟩:=Fz (k:=10) (by omega) hv;rw [if_neg (by omega),if_pos rfl,Vm,FO];unfold Le;simp only [Aa3,if_true,if_false];simp only [Nq,EO,AD,Aa2,Aa4];omega
 rw [if_neg k9,if_neg k10,AD];have:=Dl (an (.mk k n m nm v key kids)) 3;have e:TX (.mk k n m nm v key kids)=(an (.mk k n m nm v key kids)).s:=rfl;rw [e];simp only [Aa2,Aa4];omega
theorem kD {k n m:Int} {nm:List UInt8} {v:Vl} {key:Ky} {kids:List Tr} (h:S6 (.mk k n m nm v key kids)=0) (pS:∀ t ∈ kids,∃ k n m nm v key l,t=.mk k n m nm v key l/\S6 t=0) (l1:nm.length<=100) (l2:key.2.1.length<=100) (l3:key.2.2.length<=100) (hi:Dx v.2.1) (hd:Dx key.1) :
 (TX (.mk k n m nm v key kids)).length<=400+bl kids:=by
 obtain ⟨g1,g2,g3,g4,g5⟩:=Vn h;rw [FO]
 have Zx:∀ (l1:Int) (op:List UInt8) (l2:Int) (a c:Tr),(Nq (an a) l1 op (an c) l2).length<=(TX a).length+(TX c).length+6+op.length:=fun l1 op l2 a c=>by
  have:=Dl (an a) l1;have:=Dl (an c) l2;have e1:TX a=(an a).s:=rfl;have e2:TX c=(an c).s:=rfl;rw [e1,e2];unfold Nq;simp only [AD,Aai];omega
 have JJ:k=1\/k=14\/k=8\/k=7\/k=6\/k=9\/k=10\/k=11\/k=12\/k=13\/(k=2\/k=3\/k=4\/k=5\/k=15):=by omega
 rcases JJ with rfl | rfl | rfl | rfl | rfl | rfl | rfl | rfl | rfl | rfl | hp
 · unfold Le
   simp only [Aa3,if_true,if_false];have:=su v hi;omega
 · obtain ⟨a,c,d,rfl⟩:=YL g3
   unfold Le;simp only [Aa3,if_true,if_false];have f1:=Dl (an a) 0;have f2:=Dl (an c) 0;have f3:=Dl (an d) 0;have e1:TX a=(an a).s:=rfl;have e2:TX c=(an c).s:=rfl;have e3:TX d=(an d).s:=rfl;have a0:LR (HL [a,c,d]) 0=an a:=rfl;have a1:LR (HL [a,c,d]) 1=an c:=rfl;have a2:LR (HL [a,c,d]) 2=an d:=rfl;rw [a0,a1,a2];simp only [bl,AD,Aa2,Aa4,e1,e2,e3];omega
 · unfold Le
   simp only [Aa3,if_true,if_false];have:=WW [111,114] (by decide) 2 kids 0 [];simp only [Aa4] at this;omega
 · unfold Le
   simp only [Aa3,if_true,if_false];have:=WW [97,110,100] (by decide) 3 kids 0 [];simp only [Aa4] at this;omega
 · obtain ⟨a,rfl⟩:=kC g3
   obtain ⟨k',n',m',nm',v',key',l',rfl,hnn⟩:=pS a (by simp);obtain ⟨_,_,q3,_,_⟩:=Vn hnn;have:=sw (n:=n') (m:=m') (nm:=nm') (v:=v') (key:=key') q3
   have e:Le 6 n m nm v key [.mk k' n' m' nm' v' key' l'] (HL [.mk k' n' m' nm' v' key' l'])=Vk k' (an (.mk k' n' m' nm' v' key' l')):=by
    unfold Le;simp only [Aa3,if_true,if_false];rfl
   rw [e];simp only [bl];omega
 · obtain ⟨a,c,rfl⟩:=Fz (k:=9) (by omega) g3
   unfold Le;simp only [Aa3,if_true,if_false];have a0:LR (HL [a,c]) 0=an a:=rfl;have a1:LR (HL [a,c]) 1=an c:=rfl;rw [a0,a1];have:=Zx 5 [61,61] 5 a c;simp only [Aa2,Aa4] at this;simp only [bl];omega
 · obtain ⟨a,c,rfl⟩:=Fz (k:=10) (by omega) g3
   unfold Le;simp only [Aa3,if_true,if_false];have a0:LR (HL [a,c]) 0=an a:=rfl;have a1:LR (HL [a,c]) 1=an c:=rfl;rw [a0,a1];have:=Zx 5 [60] 5 a c;simp only [Aa2,Aa4] at this;simp only [bl];omega
 · obtain ⟨a,c,rfl⟩:=Fz (k:=11) (by omega) g3
   unfold Le;simp only [Aa3,if_true,if_false];have a0:LR (HL [a,c]) 0=an a:=rfl;have a1:LR (HL [a,c]) 1=an c:=rfl;rw [a0,a1];have:=Zx 5 [43] 6 a c;simp only [Aa2,Aa4] at this;simp only [bl];omega
 · obtain ⟨a,c,rfl⟩:=Fz (k:=12) (by omega) g3
   unfold Le;simp only [Aa3,if_true,if_false];have a0:LR (HL [a,c]) 0=an a:=rfl;have a1:LR (HL [a,c]) 1=an c:=rfl;rw [a0,a1];have:=Zx 5 [45] 6 a c;have f:=Dl (an c) 7;have e:TX c=(an c).s:=rfl;simp only [Aa2,Aa4] at this;simp only [bl];split
   · simp only [AD,Aa2,Aa4,e]
     omega
   · omega
 · obtain ⟨a,c,rfl⟩:=Fz (k:=13) (by omega) g3
   unfold Le;simp only [Aa3,if_true,if_false];have a0:LR (HL [a,c]) 0=an a:=rfl;have a1:LR (HL [a,c]) 1=an c:=rfl;rw [a0,a1];have:=Zx 6 [42] 7 a c;simp only [Aa2,Aa4] at this;simp only [bl];omega
 · have:=oB k n m nm key hp g4 hd l1 l2 l3
   have e:Le k n m nm v key kids (HL kids)=KV k n m nm key:=by
    unfold Le;rw [if_neg (by omega),if_neg (by omega),if_neg (by omega),if_neg (by omega),if_neg (by omega),if_neg (by omega),if_neg (by omega),if_neg (by omega),if_neg (by omega),if_neg (by omega)]
   rw [e];omega
theorem zG:∀ l:List Tr,YK l->∀ t ∈ l,∃ k n m nm v key l',t=.mk k n m nm v key l'/\S6 t=0:=fun l h t ht=>by
 have hv:=(dt l).1 h t ht;obtain ⟨k,n,m,nm,v,key,l'⟩:=t;unfold vT at hv;exact ⟨k,n,m,nm,v,key,l',rfl,hv.1⟩
mutual
theorem bm (t:Tr) (hv:vT t) (hs:EJ t) (ho:Kl t):(TX t).length<=600 * bg t:=by
 match t with
 | .mk k n m nm v key kids=>
  unfold vT at hv;unfold EJ at hs;unfold Kl at ho;unfold bg;obtain ⟨o1,o2,o3,o4,o5,o6,o7,o8⟩:=ho;have h1:=kD hv.1 (zG kids hv.2) hs.1.1 hs.1.2.2.1 hs.1.2.2.2.1 o5.2.1 o6.1;have h2:=du kids hv.2 hs.2 o8;obtain ⟨g1,g2,g3,_,_⟩:=Vn hv.1;have h3:=qL ⟨g1,g2⟩ g3;omega
theorem du (l:List Tr) (hv:YK l) (hs:C5 l) (ho:Io l):bl l<=600 * Jn l+20 * l.length:=by
 match l with
 | []=>unfold bl Jn;omega
 | t :: r=>
  unfold YK at hv;unfold C5 at hs;unfold Io at ho;unfold bl Jn;have h1:=bm t hv.1 hs.1 ho.1;have h2:=du r hv.2 hs.2 ho.2;rw [Aa2];omega
end
theorem sx {t:Tr} (h:∃ bx,Ad CC 37 [BE t] []=some (.ret (.tup [.str (TX t),.int .i64 (LV t)]),bx)):Nt t:=fun bx=>by
 obtain ⟨c,hc⟩:=h;exact Aq rfl (by simp only [AO,BH,Bu,Aad]) hc rfl
theorem dw {l:List Tr} (hv:YK l) (hs:C5 l) (ho:Io l) (hn:Jn l<=300):∀ t ∈ l,(TX t).length<=200000:=by
 induction l with
 | nil=>intro t ht;cases ht
 | cons a r ih=>
  unfold YK at hv;unfold C5 at hs;unfold Io at ho;unfold Jn at hn;intro t ht;rcases Aan.1 ht with rfl | ht
  · have:=bm t hv.1 hs.1 ho.1;omega
  · exact ih hv.2 hs.2 ho.2 (by omega) t ht
mutual
theorem qM (t:Tr) (hv:vT t) (hs:EJ t) (ho:Kl t) (hn:bg t<=300):Nt t/\∀ y ∈ EO t,Nt y:=by
 match t with
 | .mk k n m nm v key kids=>
  unfold vT at hv;unfold EJ at hs;unfold Kl at ho;unfold bg at hn;obtain ⟨o1,o2,o3,o4,o5,o6,o7,o8⟩:=ho;have hk:=kE kids hv.2 hs.2 o8 (by omega);have hl:=dw hv.2 hs.2 o8 (by omega);have Tb:∀ t ∈ kids,Nt t/\(TX t).length<=200000:=fun t ht=>⟨(hk t ht).1,hl t ht⟩;obtain ⟨g1,g2,g3,g4,g5⟩:=Vn hv.1;have h8:=qL ⟨g1,g2⟩ g3;refine ⟨sx ?_,fun y hy=>(hk y hy).1⟩;have JJ:k=1\/k=14\/k=8\/k=7\/k=6\/k=9\/k=10\/k=11\/k=12\/k=13\/k=2\/k=3\/k=4\/k=5\/k=15:=by omega
  rcases JJ with rfl | rfl | rfl | rfl | rfl | rfl | rfl | rfl | rfl | rfl | rfl | rfl | rfl | rfl | rfl
  · exact YM n m nm v key kids o5.2.1 (g5 rfl).1 (g5 rfl).2
  · exact WT n m nm v key kids g3 Tb
  · exact YN n m nm v key kids (by omega) Tb
  · exact YO n m nm v key kids (by omega) Tb
  · obtain ⟨a,rfl⟩:=kC g3
    refine YQ n m nm v key _ a rfl ?_;have ha:=hk a (by simp);have ry:=hl a (by simp);obtain ⟨hva,_⟩:=hv.2;obtain ⟨p7,_⟩:=hs.2;unfold Io at o8;have hoa:=o8.1;unfold Jn at hn;obtain ⟨k',n',m',nm',v',key',kids'⟩:=a;unfold vT at hva;unfold EJ at p7;unfold Kl at hoa;unfold bg at hn;have D4:=dw hva.2 p7.2 hoa.2.2.2.2.2.2.2 (by omega);obtain ⟨_,_,q3,_,_⟩:=Vn hva.1;exact bj k' n' m' nm' v' key' kids' q3 ha.1 ry (fun t ht=>⟨ha.2 t ht,D4 t ht⟩)
  · exact YP n m nm v key kids g3 Tb
  · exact WQ n m nm v key kids g3 Tb
  · exact WR n m nm v key kids g3 Tb
  · exact WU n m nm v key kids g3 Tb
  · exact WS n m nm v key kids g3 Tb
  · exact YR n m nm v key kids g4 o6.1 hs.1.1 hs.1.2.2.1 hs.1.2.2.2.1
  · exact YS n m nm v key kids g4 o6.1 hs.1.1 hs.1.2.2.1 hs.1.2.2.2.1
  · exact YT n m nm v key kids g4 o6.1 hs.1.1 hs.1.2.2.1 hs.1.2.2.2.1
  · exact YU n m nm v key kids g4 o6.1 hs.1.1 hs.1.2.2.1 hs.1.2.2.2.1
  · exact WV n m nm v key kids g4 o6.1 hs.1.1 hs.1.2.2.1 hs.1.2.2.2.1
theorem kE (l:List Tr) (hv:YK l) (hs:C5 l) (ho:Io l) (hn:Jn l<=300):∀ t ∈ l,Nt t/\∀ y ∈ EO t,Nt y:=by
 match l with
 | []=>intro t ht;cases ht
 | a :: r=>
  unfold YK at hv;unfold C5 at hs;unfold Io at ho;unfold Jn at hn;have h1:=qM a hv.1 hs.1 ho.1 (by omega);have h2:=kE r hv.2 hs.2 ho.2 (by omega);intro t ht;rcases Aan.1 ht with rfl | ht
  · exact h1
  · exact h2 t ht
end
def Uk (t:Tg):Bool:=decide (t.nm.length<=100/\t.key.2.1.length<=100/\t.key.2.2.length<=100/\t.ev.2.1.length<=100/\t.ev.2.2.length<=100)
def Ul (s:Sp):Bool:=decide (s.nm.length<=100/\s.key.2.1.length<=100/\s.key.2.2.length<=100/\0<=Xq s.ex 220 30)
def Nu (r:Rl):Bool:=decide (r.nm.length<=100/\r.on.length<=12/\r.dos.length<=12/\0<=Xq r.ife 220 30) && r.on.all Uk && r.dos.all Ul
theorem gj:zeroCells CC 58=some [.int .i64 0,.int .i64 0,.str [],.str [],.int .i64 0,.str [],.str [],.str [],.int .i64 0,.int .i64 0]:=by kernel_rfl
theorem sy:zeroCells CC 60=some [.int .i64 0,.int .i64 0,.str [],.str [],.str [],.int .i64 0,.int .i64 0,.int .i64 0,.str [],.int .i64 0,.int .i64 0,.str [],.int .i64 0,.str [],.str [],.nils]:=by kernel_rfl
def zH (j:Nat) (bx:List PBox) (v:Bool) (res:Option (Ex×St)):Prop:=∃ e' ex,(v=true/\res=some (.exit j,⟨e',bx++ex⟩)/\getT e' 1=.bp 0 0)\/(v=false/\res=some (.ret,⟨e',bx++ex⟩)/\getT e' 2=.bool false)
theorem zH.app {j:Nat} {bx:List PBox} {x:PBox} {v:Bool} {res:Option (Ex×St)} (h:zH j (bx++[x]) v res):zH j bx v res:=by
 obtain ⟨e',ex,h⟩:=h;refine ⟨e',[x]++ex,?_⟩;rw [<- Aat];exact h
theorem Qb:Be CC Aae (Aae.body.getD .skip)=true:=by kernel_rfl
theorem OC:CC.P.funcs[113]?=some Aae:=by kernel_rfl
theorem Sk:Be CC Aaf (Aaf.body.getD .skip)=true:=by kernel_rfl
theorem Qc:CC.P.funcs[58]?=some Aaf:=by kernel_rfl
theorem KW (t:Tg):(BR t).pure=true:=by
 unfold BR;simp only [PV.pure,Al,Aad]
theorem Sl:∀ l:List Tg,Al (l.map BR)=true
 | []=>rfl
 | t :: r=>by rw [Aay,AO,KW,Sl r];rfl
theorem OD (a b:List PV):Al (a++b)=(Al a && Al b):=by
 induction a with
 | nil=>rfl
 | cons x r ih=>rw [Aah,AO,AO,ih,Aac]
theorem YV (t:Tr):Al (Zz t)=true:=by
 have h:=BH t;rw [od] at h;unfold PV.pure at h;exact h
theorem Hk (s:Sp):(F9 s).pure=true:=by
 unfold F9 PV.pure;rw [OD,YV];rfl
theorem Sm:∀ l:List Sp,Al (l.map F9)=true
 | []=>rfl
 | t :: r=>by rw [Aay,AO,Hk,Sm r];rfl
theorem KX (r:Rl):(Ew r).pure=true:=by
 unfold Ew PV.pure;rw [OD,OD,YV];simp only [AO,ct,Q5,MG,Bu,Sl,Sm,Aad]
def YW (n:Int):Bool:=decide (1<=n/\n<=250)
theorem Hl:A9 CC 56 []=some (.agg [.int .i64 0,.str [],.str []]):=by kernel_rfl
theorem bn:CC.P.eqGuardType CC.P.depth 56=false:=by kernel_rfl
theorem Nv (n:Int):Ad CC 113 [.int .i64 n] []=some (.ret (.bool (YW n)),[]):=by
 rw [Ah (fn:=Aae) (c:=Aae.body.getD .skip) rfl rfl OC rfl Qb (Aab rfl)];by_cases c1:n ≥ 1
 · by_cases c2:n<=250
   · rw [show YW n=true by unfold YW;simp only [decide_eq_true_eq];omega]
     rw [<- An];simp only [Ab,Ac,Aae,Aa0];simp only [S8,Ag,SG,seval,UT,SC,Cu,bn,Bq,Hl,c1,c2]
   · rw [show YW n=false by unfold YW;simp only [decide_eq_false_iff_not];omega]
     rw [<- An];simp only [Ab,Ac,Aae,Aa0];simp only [S8,Ag,SG,seval,UT,SC,Cu,bn,Bq,Hl,c1,c2]
 · rw [show YW n=false by unfold YW;simp only [decide_eq_false_iff_not];omega]
   rw [<- An];simp only [Ab,Ac,Aae,Aa0];simp only [S8,Ag,SG,seval,UT,SC,Cu,bn,Bq,Hl,c1]
theorem EK (n:Int) (bx):Ai CC (Ad CC) 113 [.int .i64 n] bx=some (.ret (.bool (YW n)),bx):=Aq rfl (by simp only [SA,Aap]) (Nv n) rfl
def Um (n:Int) (a b:List UInt8):Int:=if YW n=false then 2 else if BQ a && BQ b then 0 else 10
theorem OE (n:Int) (a b:List UInt8) (ha:a.length<=1000) (hb:b.length<=1000):∃ bx,Ad CC 58 [.int .i64 n,.str a,.str b] []=some (.ret (.int .i64 (Um n a b)),bx):=by
 rw [Ah (fn:=Aaf) (c:=Aaf.body.getD .skip) rfl rfl Qc rfl Sk (Aab rfl)];have v1:=Cg a (by omega);have v2:=Cg b (by omega);unfold Um;by_cases d1:YW n=false
 · rw [if_pos d1]
   rw [<- An];have o_print_device:=@EK;rw [<- AL] at o_print_device;rw [<- AL] at v1 v2;simp only [Ab,Ac,Aaf,Aa0];simp only [S8,Ag,SG,seval,UT,SC,Cu,bn,Bq,Hl,o_print_device,v1,v2,d1];exact ⟨_,rfl⟩
 have d1':YW n=true:=by simpa using d1
 rw [if_neg d1];generalize BQ a=p at *;generalize BQ b=q at *;cases p with
 | false=>
  rw [if_neg (by simp)];rw [<- An];have o_print_device:=@EK;rw [<- AL] at o_print_device;rw [<- AL] at v1 v2;simp only [Ab,Ac,Aaf,Aa0];simp only [S8,Ag,SG,seval,UT,SC,Cu,bn,Bq,Hl,o_print_device,v1,v2,d1'];exact ⟨_,rfl⟩
 | true=>
  cases q with
  | false=>
   rw [if_neg (by simp)];rw [<- An];have o_print_device:=@EK;rw [<- AL] at o_print_device;rw [<- AL] at v1 v2;simp only [Ab,Ac,Aaf,Aa0];simp only [S8,Ag,SG,seval,UT,SC,Cu,bn,Bq,Hl,o_print_device,v1,v2,d1'];exact ⟨_,rfl⟩
  | true=>
   rw [if_pos (by simp)];rw [<- An];have o_print_device:=@EK;rw [<- AL] at o_print_device;rw [<- AL] at v1 v2;simp only [Ab,Ac,Aaf,Aa0];simp only [S8,Ag,SG,seval,UT,SC,Cu,bn,Bq,Hl,o_print_device,v1,v2,d1'];exact ⟨_,rfl⟩
theorem FA (n:Int) (a b:List UInt8) (ha:a.length<=1000) (hb:b.length<=1000) (bx):Ai CC (Ad CC) 58 [.int .i64 n,.str a,.str b] bx=some (.ret (.int .i64 (Um n a b)),bx):=by
 obtain ⟨c,h⟩:=OE n a b ha hb;exact Aq rfl (by simp only [SA,Aap]) h rfl
def oC (k:Int) (b1 b2 b3 b4 b5:Bool):Bool:=(b1 && !(k == 1)) || (b2 && !(k == 2)) || (b3 && !(k == 4)) || (b4 && !(k == 3 || k == 6)) || (b5 && !(k == 3))
def YX (t:Tg):Bool:=oC t.k (!(ED t.key (0,[],[]))) (!(ED t.ev (0,[],[]))) (!(t.nm == [])) (t.n != 0) (t.m != 0)
def NM (t:Tg):Int:=if t.k < 1\/6 < t.k then 7 else if YX t=true then 1 else if t.k=1 then Um t.key.1 t.key.2.1 t.key.2.2 else if t.k=2 then Um t.ev.1 t.ev.2.1 t.ev.2.2 else
 if t.k=3 then (if 0<=t.n/\t.n < 1440/\1<=t.m/\t.m<=127 then 0 else 2) else if t.k=4 then (if t.nm=[]\/BQ t.nm=true then 0 else 10) else if t.k=6 then (if 0<=t.n/\t.n<=1099511627776 then 0 else 2) else 0
theorem Sn {t:Tg} (h:Uk t=true):t.nm.length<=100/\t.key.2.1.length<=100/\t.key.2.2.length<=100/\t.ev.2.1.length<=100/\t.ev.2.2.length<=100:=of_decide_eq_true h
theorem Un:Be CC Aa5 (Aa5.body.getD .skip)=true:=by kernel_rfl
theorem So:CC.P.funcs[32]?=some Aa5:=by kernel_rfl
def Qd (s:Sp):Int:=
 if s.k=1 then (if s.nm≠[] then 1 else if Um s.key.1 s.key.2.1 s.key.2.2≠0 then Um s.key.1 s.key.2.1 s.key.2.2 else Km s.ex)
 else if s.k=2 then (if s.key.2.2≠[] then 1 else if Um s.key.1 s.key.2.1 s.nm≠0 then Um s.key.1 s.key.2.1 s.nm else if cZ s.ex=true then 0 else Km s.ex)
 else if s.k=3\/s.k=4\/s.k=5 then (if ED s.key (0,[],[])=false\/cZ s.ex=false then 1 else if s.k=5 then (if 60 < s.nm.length then 3 else 0) else if BQ s.nm=true then 0 else 10)
 else 7
theorem Sq {s:Sp} (h:Ul s=true):s.nm.length<=100/\s.key.2.1.length<=100/\s.key.2.2.length<=100/\0<=Xq s.ex 220 30:=of_decide_eq_true h
theorem Qe (s:Sp) (hp:Ul s=true):∃ bx,Ad CC 32 [F9 s] []=some (.ret (.int .i64 (Qd s)),bx):=by
 have hl:=Sq hp;unfold Qd;obtain ⟨k,key,nm,ex⟩:=s;obtain ⟨d,c,a⟩:=key;obtain ⟨l1,l2,l3,l4⟩:=hl;simp only at l1 l2 l3 l4 |-;have onn:=LP ex;have ock:=HV ex (U5 ex 220 30 l4);have on1:=FA d c a (by omega) (by omega);have on2:=FA d c nm (by omega) (by omega);have ova:=Cg nm (by omega);have hlen:=Bk nm;have Zk:EB .neq nm []=some (.bool (!(nm == []))):=rfl;have p7:EB .neq a []=some (.bool (!(a == []))):=rfl;have heq:Mu CC 100 26 (.agg [.int .i64 d,.str c,.str a]) (.agg [.int .i64 0,.str [],.str []])=some (ED (d,c,a) (0,[],[])):=by rw [fl];rfl
 generalize ED (d,c,a) (0,[],[])=kz at *;generalize cZ ex=nn at *;generalize Km ex=ck at *;generalize Um d c a=e1 at *;generalize Um d c nm=e2 at *;generalize BQ nm=va at *;unfold F9 Zz;obtain ⟨zk,zn,zm,znm,zv,zkey,zkids⟩:=ex;unfold BE at onn ock |-;generalize A8 zkids=zs at *;simp only [SA,Aah,Aak] at onn ock |-;rw [Ah (fn:=Aa5) (c:=Aa5.body.getD .skip) rfl rfl So rfl Un (Aab rfl)];by_cases k1:k=1
 · subst k1
   rw [if_pos rfl];by_cases z1:nm=[]
   · have hb:(nm == [])=true:=by rw [z1];rfl
     rw [hb] at Zk;rw [if_neg (fun h=>h z1)];by_cases z2:e1=0
     · subst z2
       rw [if_neg (fun h=>h rfl)];rw [<- An];rw [<- AL] at onn ock on1 on2 ova;simp only [Ab,Ac,Aa5,Aa0];simp only [S8,Ag,SG,seval,UT,SC,Cu,Bq,onn,ock,on1,on2,ova,hlen,heq,Zk];exact ⟨_,rfl⟩
     · have z2p:(e1 != 0)=true:=by simpa using z2
       rw [if_pos z2];rw [<- An];rw [<- AL] at onn ock on1 on2 ova;simp only [Ab,Ac,Aa5,Aa0];simp only [S8,Ag,SG,seval,UT,SC,Cu,Bq,onn,ock,on1,on2,ova,hlen,heq,Zk,z2p];exact ⟨_,rfl⟩
   · have hb:(nm == [])=false:=by simpa using z1
     rw [hb] at Zk;rw [if_pos z1];rw [<- An];rw [<- AL] at onn ock on1 on2 ova;simp only [Ab,Ac,Aa5,Aa0];simp only [S8,Ag,SG,seval,UT,SC,Cu,Bq,onn,ock,on1,on2,ova,hlen,heq,Zk];exact ⟨_,rfl⟩
 rw [if_neg k1];have k1p:(k == 1)=false:=by simpa using k1
 by_cases k2:k=2
 · subst k2
   rw [if_pos rfl];by_cases z1:a=[]
   · have hb:(a == [])=true:=by rw [z1];rfl
     rw [hb] at p7;rw [if_neg (fun h=>h z1)];by_cases z2:e2=0
     · subst z2
       rw [if_neg (fun h=>h rfl)];cases nn with
       | true=>
        rw [if_pos rfl];rw [<- An];rw [<- AL] at onn ock on1 on2 ova;simp only [Ab,Ac,Aa5,Aa0];simp only [S8,Ag,SG,seval,UT,SC,Cu,Bq,onn,ock,on1,on2,ova,hlen,heq,p7];exact ⟨_,rfl⟩
       | false=>
        rw [if_neg (by simp)];rw [<- An];rw [<- AL] at onn ock on1 on2 ova;simp only [Ab,Ac,Aa5,Aa0];simp only [S8,Ag,SG,seval,UT,SC,Cu,Bq,onn,ock,on1,on2,ova,hlen,heq,p7];exact ⟨_,rfl⟩
     · have z2p:(e2 != 0)=true:=by simpa using z2
       rw [if_pos z2];rw [<- An];rw [<- AL] at onn ock on1 on2 ova;simp only [Ab,Ac,Aa5,Aa0];simp only [S8,Ag,SG,seval,UT,SC,Cu,Bq,onn,ock,on1,on2,ova,hlen,heq,p7,z2p];exact ⟨_,rfl⟩
   · have hb:(a == [])=false:=by simpa using z1
     rw [hb] at p7;rw [if_pos z1];rw [<- An];rw [<- AL] at onn ock on1 on2 ova;simp only [Ab,Ac,Aa5,Aa0];simp only [S8,Ag,SG,seval,UT,SC,Cu,Bq,onn,ock,on1,on2,ova,hlen,heq,p7];exact ⟨_,rfl⟩
 rw [if_neg k2];have k2p:(k == 2)=false:=by simpa using k2
 by_cases k3:k=3
 · subst k3
   rw [if_pos (by omega)];cases kz with
   | false=>
    rw [if_pos (.inl rfl)];rw [<- An];rw [<- AL] at onn ock on1 on2 ova;simp only [Ab,Ac,Aa5,Aa0];simp only [S8,Ag,SG,seval,UT,SC,Cu,Bq,onn,ock,on1,on2,ova,hlen,heq];exact ⟨_,rfl⟩
   | true=>
    cases nn with
    | false=>
     rw [if_pos (.inr rfl)];rw [<- An];rw [<- AL] at onn ock on1 on2 ova;simp only [Ab,Ac,Aa5,Aa0];simp only [S8,Ag,SG,seval,UT,SC,Cu,Bq,onn,ock,on1,on2,ova,hlen,heq];exact ⟨_,rfl⟩
    | true=>
     rw [if_neg (by simp)];rw [if_neg (by omega)];cases va with
     | false=>
      rw [if_neg (by simp)];rw [<- An];rw [<- AL] at onn ock on1 on2 ova;simp only [Ab,Ac,Aa5,Aa0];simp only [S8,Ag,SG,seval,UT,SC,Cu,Bq,onn,ock,on1,on2,ova,hlen,heq];exact ⟨_,rfl⟩
     | true=>
      rw [if_pos rfl];rw [<- An];rw [<- AL] at onn ock on1 on2 ova;simp only [Ab,Ac,Aa5,Aa0];simp only [S8,Ag,SG,seval,UT,SC,Cu,Bq,onn,ock,on1,on2,ova,hlen,heq];exact ⟨_,rfl⟩
 have k3p:(k == 3)=false:=by simpa using k3
 by_cases k4:k=4
 · subst k4
   rw [if_pos (by omega)];cases kz with
   | false=>
    rw [if_pos (.inl rfl)];rw [<- An];rw [<- AL] at onn ock on1 on2 ova;simp only [Ab,Ac,Aa5,Aa0];simp only [S8,Ag,SG,seval,UT,SC,Cu,Bq,onn,ock,on1,on2,ova,hlen,heq];exact ⟨_,rfl⟩
   | true=>
    cases nn with
    | false=>
     rw [if_pos (.inr rfl)];rw [<- An];rw [<- AL] at onn ock on1 on2 ova;simp only [Ab,Ac,Aa5,Aa0];simp only [S8,Ag,SG,seval,UT,SC,Cu,Bq,onn,ock,on1,on2,ova,hlen,heq];exact ⟨_,rfl⟩
    | true=>
     rw [if_neg (by simp)];rw [if_neg (by omega)];cases va with
     | false=>
      rw [if_neg (by simp)];rw [<- An];rw [<- AL] at onn ock on1 on2 ova;simp only [Ab,Ac,Aa5,Aa0];simp only [S8,Ag,SG,seval,UT,SC,Cu,Bq,onn,ock,on1,on2,ova,hlen,heq];exact ⟨_,rfl⟩
     | true=>
      rw [if_pos rfl];rw [<- An];rw [<- AL] at onn ock on1 on2 ova;simp only [Ab,Ac,Aa5,Aa0];simp only [S8,Ag,SG,seval,UT,SC,Cu,Bq,onn,ock,on1,on2,ova,hlen,heq];exact ⟨_,rfl⟩
 have k4p:(k == 4)=false:=by simpa using k4
 by_cases k5:k=5
 · subst k5
   rw [if_pos (by omega)];cases kz with
   | false=>
    rw [if_pos (.inl rfl)];rw [<- An];rw [<- AL] at onn ock on1 on2 ova;simp only [Ab,Ac,Aa5,Aa0];simp only [S8,Ag,SG,seval,UT,SC,Cu,Bq,onn,ock,on1,on2,ova,hlen,heq];exact ⟨_,rfl⟩
   | true=>
    cases nn with
    | false=>
     rw [if_pos (.inr rfl)];rw [<- An];rw [<- AL] at onn ock on1 on2 ova;simp only [Ab,Ac,Aa5,Aa0];simp only [S8,Ag,SG,seval,UT,SC,Cu,Bq,onn,ock,on1,on2,ova,hlen,heq];exact ⟨_,rfl⟩
    | true=>
     rw [if_neg (by simp)];rw [if_pos rfl];by_cases z1:(nm.length:Int) > 60
     · rw [if_pos (by omega)]
       rw [<- An];rw [<- AL] at onn ock on1 on2 ova;simp only [Ab,Ac,Aa5,Aa0];simp only [S8,Ag,SG,seval,UT,SC,Cu,Bq,onn,ock,on1,on2,ova,hlen,heq,z1];exact ⟨_,rfl⟩
     · rw [if_neg (by omega)]
       rw [<- An];rw [<- AL] at onn ock on1 on2 ova;simp only [Ab,Ac,Aa5,Aa0];simp only [S8,Ag,SG,seval,UT,SC,Cu,Bq,onn,ock,on1,on2,ova,hlen,heq,z1];exact ⟨_,rfl⟩
 have k5p:(k == 5)=false:=by simpa using k5
 rw [if_neg (by omega)];rw [<- An];rw [<- AL] at onn ock on1 on2 ova;simp only [Ab,Ac,Aa5,Aa0];simp only [S8,Ag,SG,seval,UT,SC,Cu,Bq,onn,ock,on1,on2,ova,hlen,heq,k1p,k2p,k3p,k4p,k5p];exact ⟨_,rfl⟩
theorem Uo (s:Sp) (hp:Ul s=true) (bx):Ai CC (Ad CC) 32 [F9 s] bx=some (.ret (.int .i64 (Qd s)),bx):=by
 obtain ⟨b,h⟩:=Qe s hp;exact Aq rfl (by simp only [AO,Hk,Bu,Aad]) h rfl
theorem Sr:Be CC Aa6 (Aa6.body.getD .skip)=true:=by kernel_rfl
theorem Qf:CC.P.funcs[11]?=some Aa6:=by kernel_rfl
def Xt {α:Type} (f:α->Int):List α->Int
 | []=>0
 | x :: r=>if f x≠0 then f x else Xt f r
def oD (j:Nat) (bx:List PBox) (v:Int) (res:Option (Ex×St)):Prop:=∃ e' ex,(v=0/\res=some (.exit j,⟨e',bx++ex⟩)/\getT e' 1=.bp 0 0)\/(v≠0/\res=some (.ret,⟨e',bx++ex⟩)/\getT e' 2=.int .i64 v)
theorem oD.app {j:Nat} {bx:List PBox} {x:PBox} {v:Int} {res:Option (Ex×St)} (h:oD j (bx++[x]) v res):oD j bx v res:=by
 obtain ⟨e',ex,h⟩:=h;refine ⟨e',[x]++ex,?_⟩;rw [<- Aat];exact h
theorem kF (L:Code) (hL:L=Ab Aa6 [1,1,1,1,0,1,0]) (l:List Tg) (hl:l.length<=12) (hc:∀ t ∈ l,∀ bx,Ai CC (Ad CC) 30 [BR t] bx=some (.ret (.int .i64 (NM t)),bx)):∀ (k i:Nat) (e:List PV) (bx:List PBox) ,i+k=l.length ->
 getT e 1=.bp 0 0->getT e 45=.sl (l.map BR)->getT e 46=.int .i64 l.length->getT e 47=.int .i64 i->oD 0 bx (Xt NM (l.drop i)) (Co CC L ⟨e,bx⟩):=by
 intro k
 induction k with
 | zero=>
  intro i e bx D3 e1 es el ei;rw [A3 (Ab Aa6 [1,1,1,1,0,1,0,0]) hL];have hi:¬ ((i:Int) < (l.length:Int)):=by omega
  rw [Aaq (by omega)];unfold Xt;generalize l.map BR=xs at *;rw [<- An];simp only [Ab,Ac,Aa6,Aa0];simp only [S8,Ag,SG,seval,UT,SC,gj,sy,Aa1,e1,es,el,ei,hi];exact ⟨_,[],.inl ⟨rfl,by rw [Aax],by simp only [S7,Ag,seval,e1]⟩⟩
 | succ k ih=>
  intro i e bx D3 e1 es el ei;rw [A3 (Ab Aa6 [1,1,1,1,0,1,0,0]) hL];have hi:((i:Int) < (l.length:Int)):=by omega
  have Gb:¬ ((i:Int) < 0):=by omega
  have IU:l.drop i=(l[i]'(by omega)) :: l.drop (i+1):=Aal (by omega);have hx:(l.map BR)[i]?=some (BR (l[i]'(by omega))):=by rw [Aas,Aao (by omega)];rfl
  have Mt:=wrap_i64 (n:=(i:Int)+1) ⟨by omega,by omega⟩;have Bc:=hc (l[i]'(by omega)) (Aau _);have key:=fun e bx=>ih (i+1) e bx (by omega);have cast1:((i+1:Nat):Int)=(i:Int)+1:=by omega
  rw [cast1] at key;rw [IU];unfold Xt;generalize l[i]'(by omega)=x at *;generalize Xt NM (l.drop (i+1))=v at *;generalize NM x=er at *;generalize l.map BR=xs at *;obtain ⟨xk,xkey,xev,xnm,xn,xm⟩:=x;obtain ⟨xd,xcl,xat⟩:=xkey;obtain ⟨yd,yc,yn⟩:=xev;unfold BR at hx Bc;simp only at hx Bc;by_cases c1:er=0
  · subst c1
    rw [if_neg (by simp)];apply oD.app;rw [<- An];rw [<- An] at key;rw [<- AL] at Bc;simp only [Ab,Ac,Aa6,Aa0];simp only [S8,Ag,SG,seval,UT,SC,gj,sy,Aa1,e1,es,el,ei,hi,Gb,hx,Mt,Bc];refine key _ _ ?_ ?_ ?_ ?_
    all_goals simp only [S7,Ag,seval,e1,es,el,ei]
  · have c1p:(er != 0)=true:=by simpa using c1
    rw [if_pos c1];rw [<- An];rw [<- AL] at Bc;simp only [Ab,Ac,Aa6,Aa0];simp only [S8,Ag,SG,seval,UT,SC,gj,sy,Aa1,e1,es,el,ei,hi,Gb,hx,Bc,c1p];exact ⟨_,_,.inr ⟨c1,rfl,by simp only [S7,Ag,seval]⟩⟩
theorem kG (L:Code) (hL:L=Ab Aa6 [1,1,1,1,1,1,0,1,0]) (l:List Sp) (hl:l.length<=12) (hc:∀ t ∈ l,∀ bx,Ai CC (Ad CC) 32 [F9 t] bx=some (.ret (.int .i64 (Qd t)),bx)):∀ (k i:Nat) (e:List PV) (bx:List PBox) ,i+k=l.length ->
 getT e 1=.bp 0 0->getT e 64=.sl (l.map F9)->getT e 65=.int .i64 l.length->getT e 66=.int .i64 i->oD 2 bx (Xt Qd (l.drop i)) (Co CC L ⟨e,bx⟩):=by
 intro k
 induction k with
 | zero=>
  intro i e bx D3 e1 es el ei;rw [A3 (Ab Aa6 [1,1,1,1,1,1,0,1,0,0]) hL];have hi:¬ ((i:Int) < (l.length:Int)):=by omega
  rw [Aaq (by omega)];unfold Xt;generalize l.map F9=xs at *;rw [<- An];simp only [Ab,Ac,Aa6,Aa0];simp only [S8,Ag,SG,seval,UT,SC,gj,sy,Aa1,e1,es,el,ei,hi];exact ⟨_,[],.inl ⟨rfl,by rw [Aax],by simp only [S7,Ag,seval,e1]⟩⟩
 | succ k ih=>
  intro i e bx D3 e1 es el ei;rw [A3 (Ab Aa6 [1,1,1,1,1,1,0,1,0,0]) hL];have hi:((i:Int) < (l.length:Int)):=by omega
  have Gb:¬ ((i:Int) < 0):=by omega
  have IU:l.drop i=(l[i]'(by omega)) :: l.drop (i+1):=Aal (by omega);have hx:(l.map F9)[i]?=some (F9 (l[i]'(by omega))):=by rw [Aas,Aao (by omega)];rfl
  have Mt:=wrap_i64 (n:=(i:Int)+1) ⟨by omega,by omega⟩;have Bc:=hc (l[i]'(by omega)) (Aau _);have key:=fun e bx=>ih (i+1) e bx (by omega);have cast1:((i+1:Nat):Int)=(i:Int)+1:=by omega
  rw [cast1] at key;rw [IU];unfold Xt;generalize l[i]'(by omega)=x at *;generalize Xt Qd (l.drop (i+1))=v at *;generalize Qd x=er at *;generalize l.map F9=xs at *;obtain ⟨xk,xkey,xnm,xt⟩:=x;obtain ⟨xd,xcl,xat⟩:=xkey;unfold F9 Zz at hx Bc;obtain ⟨zk,zn,zm,znm,zv,zkey,zkids⟩:=xt;unfold BE at hx Bc;simp only [SA,Aah,Aak] at hx Bc;generalize A8 zkids=zs at *;by_cases c1:er=0
  · subst c1
    rw [if_neg (by simp)];apply oD.app;rw [<- An];rw [<- An] at key;rw [<- AL] at Bc;simp only [Ab,Ac,Aa6,Aa0];simp only [S8,Ag,SG,seval,UT,SC,gj,sy,Aa1,e1,es,el,ei,hi,Gb,hx,Mt,Bc];refine key _ _ ?_ ?_ ?_ ?_
    all_goals simp only [S7,Ag,seval,e1,es,el,ei]
  · have c1p:(er != 0)=true:=by simpa using c1
    rw [if_pos c1];rw [<- An];rw [<- AL] at Bc;simp only [Ab,Ac,Aa6,Aa0];simp only [S8,Ag,SG,seval,UT,SC,gj,sy,Aa1,e1,es,el,ei,hi,Gb,hx,Bc,c1p];exact ⟨_,_,.inr ⟨c1,rfl,by simp only [S7,Ag,seval]⟩⟩
def Vo (r:Rl):Int:=if BQ r.nm=false then 10 else if r.pr < 0\/100 < r.pr then 2 else if r.on.length < 1\/8 < r.on.length\/r.dos.length < 1\/8 < r.dos.length then 3 else
 if Xt NM r.on≠0 then Xt NM r.on else if Km r.ife≠0 then Km r.ife else Xt Qd r.dos
theorem Ss {r:Rl} (h:Nu r=true):r.nm.length<=100/\r.on.length<=12/\r.dos.length<=12/\0<=Xq r.ife 220 30/\(∀ t ∈ r.on,Uk t=true)/\∀ s ∈ r.dos,Ul s=true:=by
 unfold Nu at h;rw [Aaj,Aaj,Aav,Aav] at h;obtain ⟨⟨h1,h2⟩,h3⟩:=h;have h1:=of_decide_eq_true h1;exact ⟨h1.1,h1.2.1,h1.2.2.1,h1.2.2.2,h2,h3⟩
theorem OF (hT:∀ t,Uk t=true->∀ bx,Ai CC (Ad CC) 30 [BR t] bx=some (.ret (.int .i64 (NM t)),bx)) (r:Rl) (hp:Nu r=true):∃ bx,Ad CC 11 [Ew r] []=some (.ret (.int .i64 (Vo r)),bx):=by
 obtain ⟨g1,g2,g3,g4,g5,g6⟩:=Ss hp;unfold Vo;obtain ⟨nm,pr,on,ife,dos⟩:=r;simp only at g1 g2 g3 g4 g5 g6 |-;have ova:=Cg nm (by omega);have ock:=HV ife (U5 ife 220 30 g4);have lon:(on.map BR).length=on.length:=Aaw _;have ldo:(dos.map F9).length=dos.length:=Aaw _;have By:=fun e bx=>kF _ rfl on (by omega) (fun t ht=>hT t (g5 t ht)) on.length 0 e bx (by omega);have Zu:=fun e bx=>kG _ rfl dos (by omega) (fun s hs=>Uo s (g6 s hs)) dos.length 0 e bx (by omega);rw [List.drop_zero] at By Zu;generalize BQ nm=va at *;generalize Km ife=ck at *;generalize Xt NM on=f1 at *;generalize Xt Qd dos=f2 at *;unfold Ew Zz;obtain ⟨zk,zn,zm,znm,zv,zkey,zkids⟩:=ife;unfold BE at ock |-;simp only [SA,Aah,Aak] at ock |-;generalize A8 zkids=zs at *;generalize on.map BR=xs at *;generalize dos.map F9=ys at *;rw [Ah (fn:=Aa6) (c:=Aa6.body.getD .skip) rfl rfl Qf rfl Sr (Aab rfl)];cases va with
 | false=>
  rw [if_pos rfl];rw [<- An];rw [<- AL] at ova ock;simp only [Ab,Ac,Aa6,Aa0];simp only [S8,Ag,SG,seval,UT,SC,ova,ock,lon,ldo];exact ⟨_,rfl⟩
 | true=>
  by_cases c0:pr < 0
  · rw [if_neg (by simp),if_pos (by omega)]
    rw [<- An];rw [<- AL] at ova ock;simp only [Ab,Ac,Aa6,Aa0];simp only [S8,Ag,SG,seval,UT,SC,ova,ock,lon,ldo,c0];exact ⟨_,rfl⟩
  by_cases c1:pr > 100
  · rw [if_neg (by simp),if_pos (by omega)]
    rw [<- An];rw [<- AL] at ova ock;simp only [Ab,Ac,Aa6,Aa0];simp only [S8,Ag,SG,seval,UT,SC,ova,ock,lon,ldo,c0,c1];exact ⟨_,rfl⟩
  by_cases d0:(on.length:Int) < 1
  · rw [if_neg (by simp),if_neg (by omega),if_pos (by omega)]
    rw [<- An];rw [<- AL] at ova ock;simp only [Ab,Ac,Aa6,Aa0];simp only [S8,Ag,SG,seval,UT,SC,ova,ock,lon,ldo,c0,c1,d0];exact ⟨_,rfl⟩
  by_cases d1:(on.length:Int) > 8
  · rw [if_neg (by simp),if_neg (by omega),if_pos (by omega)]
    rw [<- An];rw [<- AL] at ova ock;simp only [Ab,Ac,Aa6,Aa0];simp only [S8,Ag,SG,seval,UT,SC,ova,ock,lon,ldo,c0,c1,d0,d1];exact ⟨_,rfl⟩
  by_cases d2:(dos.length:Int) < 1
  · rw [if_neg (by simp),if_neg (by omega),if_pos (by omega)]
    rw [<- An];rw [<- AL] at ova ock;simp only [Ab,Ac,Aa6,Aa0];simp only [S8,Ag,SG,seval,UT,SC,ova,ock,lon,ldo,c0,c1,d0,d1,d2];exact ⟨_,rfl⟩
  by_cases d3:(dos.length:Int) > 8
  · rw [if_neg (by simp),if_neg (by omega),if_pos (by omega)]
    rw [<- An];rw [<- AL] at ova ock;simp only [Ab,Ac,Aa6,Aa0];simp only [S8,Ag,SG,seval,UT,SC,ova,ock,lon,ldo,c0,c1,d0,d1,d2,d3];exact ⟨_,rfl⟩
  rw [if_neg (by simp),if_neg (by omega),if_neg (by omega)];rw [<- An];rw [<- AL] at ova ock;rw [<- An] at By Zu;simp only [Ab,Ac,Aa6,Aa0] at By Zu |-;simp only [S8,Ag,SG,seval,UT,SC,ova,ock,lon,ldo,c0,c1,d0,d1,d2,d3];generalize hE:Hp (Code.loop _) _=z
  have hP:oD 0 [.cells 32 [.str nm,.int .i64 pr,.sl xs,.int .i64 zk,.int .i64 zn,.int .i64 zm,.str znm,.int .i64 zv.1,.int .i64 zv.2.1,.str zv.2.2,.int .i64 zkey.1,.str zkey.2.1,.str zkey.2.2,.sl zs,.sl ys]] f1 z:=by
   rw [<- hE];refine By _ _ ?_ ?_ ?_ ?_
   all_goals first | (simp only [S7,Ag,seval];done) | (simp only [S7,Ag,seval] <;> rfl)
  obtain ⟨e',ex,⟨hv,he,q1⟩ | ⟨hv,he,q2⟩⟩:=hP
  · subst he
    subst hv;rw [if_neg (by simp)];by_cases k1:ck=0
    · subst k1
      rw [if_neg (by simp)];simp only [S8,Ag,SG,seval,UT,SC,q1,ldo,ock];generalize yj:Hp (Code.loop _) _=z2
      have yk:oD 2 (.cells 32 [.str nm,.int .i64 pr,.sl xs,.int .i64 zk,.int .i64 zn,.int .i64 zm,.str znm,.int .i64 zv.1,.int .i64 zv.2.1,.str zv.2.2,.int .i64 zkey.1,.str zkey.2.1,.str zkey.2.2,.sl zs,.sl ys] :: ex) f2 z2:=by
       rw [<- yj];refine Zu _ _ ?_ ?_ ?_ ?_
       all_goals first | (simp only [S7,Ag,seval,q1];done) | (simp only [S7,Ag,seval,q1] <;> rfl)
      obtain ⟨e2,lO,⟨ia,vq,q3⟩ | ⟨ia,vq,q4⟩⟩:=yk
      · subst vq
        subst ia;simp only [S8,Ag,seval];exact ⟨_,rfl⟩
      · subst vq
        simp only [S8,Ag,seval,q4];exact ⟨_,rfl⟩
    · have k1p:(ck != 0)=true:=by simpa using k1
      rw [if_pos k1];simp only [S8,Ag,SG,seval,UT,SC,q1,ldo,ock,k1p];exact ⟨_,rfl⟩
  · subst he
    rw [if_pos hv];simp only [S8,Ag,seval,q2];exact ⟨_,rfl⟩
theorem OG:Be CC Aa7 (Aa7.body.getD .skip)=true:=by kernel_rfl
theorem Nw:CC.P.funcs[30]?=some Aa7:=by kernel_rfl
theorem Mi (hS:∀ t:Tg,∀ bx,Ai CC (Ad CC) 57 [BR t] bx=some (.ret (.bool (!(YX t))),bx)) (t:Tg) (hp:Uk t=true):∃ bx,Ad CC 30 [BR t] []=some (.ret (.int .i64 (NM t)),bx):=by
 have hl:=Sn hp;have osp:=hS t;clear hS;unfold NM;obtain ⟨k,key,Hp,nm,n,m⟩:=t;obtain ⟨d,c,a⟩:=key;obtain ⟨d',c',a'⟩:=Hp;obtain ⟨l1,l2,l3,l4,l5⟩:=hl;simp only at l1 l2 l3 l4 l5;have on1:=FA d c a (by omega) (by omega);have on2:=FA d' c' a' (by omega) (by omega);have v5:=Cg nm (by omega);have hn:EB .neq nm []=some (.bool (!(nm == []))):=rfl;obtain ⟨ne,Dz⟩:∃ b,b=(nm == []):=⟨_,rfl⟩;have mi:nm=[]↔ne=true:=by rw [Dz];simp
 rw [<- Dz] at hn;unfold BR at osp |-;simp only at osp |-;generalize YX ⟨k,(d,c,a),(d',c',a'),nm,n,m⟩=ts at *;rw [Ah (fn:=Aa7) (c:=Aa7.body.getD .skip) rfl rfl Nw rfl OG (Aab rfl)];generalize Um d c a=q1 at *;generalize Um d' c' a'=q2 at *;generalize BQ nm=p5 at *;by_cases c1:k < 1
 · rw [if_pos (by omega)]
   rw [<- An];rw [<- AL] at osp on1 on2 v5;simp only [Ab,Ac,Aa7,Aa0];simp only [S8,Ag,SG,seval,UT,SC,osp,on1,on2,v5,hn,c1];exact ⟨_,rfl⟩
 by_cases c2:k > 6
 · rw [if_pos (by omega)]
   rw [<- An];rw [<- AL] at osp on1 on2 v5;simp only [Ab,Ac,Aa7,Aa0];simp only [S8,Ag,SG,seval,UT,SC,osp,on1,on2,v5,hn,c1,c2];exact ⟨_,rfl⟩
 cases ts with
 | true=>
  rw [if_neg (by omega),if_pos rfl];rw [<- An];rw [<- AL] at osp on1 on2 v5;simp only [Ab,Ac,Aa7,Aa0];simp only [S8,Ag,SG,seval,UT,SC,osp,on1,on2,v5,hn,c1,c2];exact ⟨_,rfl⟩
 | false=>
  by_cases k1:k=1
  · subst k1
    rw [if_neg (by omega),if_neg (by simp),if_pos rfl];rw [<- An];rw [<- AL] at osp on1 on2 v5;simp only [Ab,Ac,Aa7,Aa0];simp only [S8,Ag,SG,seval,UT,SC,osp,on1,on2,v5,hn,c1,c2];exact ⟨_,rfl⟩
  by_cases k2:k=2
  · subst k2
    rw [if_neg (by omega),if_neg (by simp),if_neg (by omega),if_pos rfl];rw [<- An];rw [<- AL] at osp on1 on2 v5;simp only [Ab,Ac,Aa7,Aa0];simp only [S8,Ag,SG,seval,UT,SC,osp,on1,on2,v5,hn,c1,c2];exact ⟨_,rfl⟩
  by_cases k3:k=3
  · subst k3
    by_cases e0:n < 0
    · rw [if_neg (by omega),if_neg (by simp),if_neg (by omega),if_neg (by omega),if_pos rfl,if_neg (by omega)]
      rw [<- An];rw [<- AL] at osp on1 on2 v5;simp only [Ab,Ac,Aa7,Aa0];simp only [S8,Ag,SG,seval,UT,SC,osp,on1,on2,v5,hn,c1,c2,e0];exact ⟨_,rfl⟩
    by_cases e1:n ≥ 1440
    · rw [if_neg (by omega),if_neg (by simp),if_neg (by omega),if_neg (by omega),if_pos rfl,if_neg (by omega)]
      rw [<- An];rw [<- AL] at osp on1 on2 v5;simp only [Ab,Ac,Aa7,Aa0];simp only [S8,Ag,SG,seval,UT,SC,osp,on1,on2,v5,hn,c1,c2,e0,e1];exact ⟨_,rfl⟩
    by_cases e2:m < 1
    · rw [if_neg (by omega),if_neg (by simp),if_neg (by omega),if_neg (by omega),if_pos rfl,if_neg (by omega)]
      rw [<- An];rw [<- AL] at osp on1 on2 v5;simp only [Ab,Ac,Aa7,Aa0];simp only [S8,Ag,SG,seval,UT,SC,osp,on1,on2,v5,hn,c1,c2,e0,e1,e2];exact ⟨_,rfl⟩
    by_cases e3:m > 127
    · rw [if_neg (by omega),if_neg (by simp),if_neg (by omega),if_neg (by omega),if_pos rfl,if_neg (by omega)]
      rw [<- An];rw [<- AL] at osp on1 on2 v5;simp only [Ab,Ac,Aa7,Aa0];simp only [S8,Ag,SG,seval,UT,SC,osp,on1,on2,v5,hn,c1,c2,e0,e1,e2,e3];exact ⟨_,rfl⟩
    rw [if_neg (by omega),if_neg (by simp),if_neg (by omega),if_neg (by omega),if_pos rfl,if_pos (by omega)];rw [<- An];rw [<- AL] at osp on1 on2 v5;simp only [Ab,Ac,Aa7,Aa0];simp only [S8,Ag,SG,seval,UT,SC,osp,on1,on2,v5,hn,c1,c2,e0,e1,e2,e3];exact ⟨_,rfl⟩
  by_cases k4:k=4
  · subst k4
    cases ne with
    | true=>
     rw [if_neg (by omega),if_neg (by simp),if_neg (by omega),if_neg (by omega),if_neg (by omega),if_pos rfl,if_pos (.inl (mi.2 rfl))];rw [<- An];rw [<- AL] at osp on1 on2 v5;simp only [Ab,Ac,Aa7,Aa0];simp only [S8,Ag,SG,seval,UT,SC,osp,on1,on2,v5,hn,c1,c2];exact ⟨_,rfl⟩
    | false=>
     cases p5 with
     | true=>
      rw [if_neg (by omega),if_neg (by simp),if_neg (by omega),if_neg (by omega),if_neg (by omega),if_pos rfl,if_pos (.inr rfl)];rw [<- An];rw [<- AL] at osp on1 on2 v5;simp only [Ab,Ac,Aa7,Aa0];simp only [S8,Ag,SG,seval,UT,SC,osp,on1,on2,v5,hn,c1,c2];exact ⟨_,rfl⟩
     | false=>
      rw [if_neg (by omega),if_neg (by simp),if_neg (by omega),if_neg (by omega),if_neg (by omega),if_pos rfl,if_neg (by rw [mi];simp)];rw [<- An];rw [<- AL] at osp on1 on2 v5;simp only [Ab,Ac,Aa7,Aa0];simp only [S8,Ag,SG,seval,UT,SC,osp,on1,on2,v5,hn,c1,c2];exact ⟨_,rfl⟩
  by_cases k6:k=6
  · subst k6
    by_cases e0:n < 0
    · rw [if_neg (by omega),if_neg (by simp),if_neg (by omega),if_neg (by omega),if_neg (by omega),if_neg (by omega),if_pos rfl,if_neg (by omega)]
      rw [<- An];rw [<- AL] at osp on1 on2 v5;simp only [Ab,Ac,Aa7,Aa0];simp only [S8,Ag,SG,seval,UT,SC,osp,on1,on2,v5,hn,c1,c2,e0];exact ⟨_,rfl⟩
    by_cases e1:n > 1099511627776
    · rw [if_neg (by omega),if_neg (by simp),if_neg (by omega),if_neg (by omega),if_neg (by omega),if_neg (by omega),if_pos rfl,if_neg (by omega)]
      rw [<- An];rw [<- AL] at osp on1 on2 v5;simp only [Ab,Ac,Aa7,Aa0];simp only [S8,Ag,SG,seval,UT,SC,osp,on1,on2,v5,hn,c1,c2,e0,e1];exact ⟨_,rfl⟩
    rw [if_neg (by omega),if_neg (by simp),if_neg (by omega),if_neg (by omega),if_neg (by omega),if_neg (by omega),if_pos rfl,if_pos (by omega)];rw [<- An];rw [<- AL] at osp on1 on2 v5;simp only [Ab,Ac,Aa7,Aa0];simp only [S8,Ag,SG,seval,UT,SC,osp,on1,on2,v5,hn,c1,c2,e0,e1];exact ⟨_,rfl⟩
  have k5:k=5:=by omega
  subst k5;rw [if_neg (by omega),if_neg (by simp),if_neg (by omega),if_neg (by omega),if_neg (by omega),if_neg (by omega),if_neg (by omega)];rw [<- An];rw [<- AL] at osp on1 on2 v5;simp only [Ab,Ac,Aa7,Aa0];simp only [S8,Ag,SG,seval,UT,SC,osp,on1,on2,v5,hn,c1,c2];exact ⟨_,rfl⟩
theorem gk:Jy CC Aa8 (Aa8.body.getD .skip)=true:=by kernel_rfl
theorem gl:Be CC Aa8 (Aa8.body.getD .skip)=false:=by kernel_rfl
theorem nP1 (st:St):DM (some (.normal,st))=some (.normal,st):=rfl
theorem kH:CL CC (opsOf (Ab Aa8 [1,1,0,1,0,1,1,1,1,1,0]))=false:=by kernel_rfl
theorem gm:CC.P.funcs[57]?=some Aa8:=by kernel_rfl
theorem Cc:∀ (e:List PV) (i j:Nat) (a b:PV),i≠j->setT (setT e i a) j b=setT (setT e j b) i a
 | [],0,0,_,_,h=>absurd rfl h
 | [],0,j+1,a,b,_=>by simp [setT]
 | [],i+1,0,a,b,_=>by simp [setT]
 | [],i+1,j+1,a,b,h=>by
  have:=Cc [] i j a b (by omega);simp [setT,this]
 | _ :: _,0,0,_,_,h=>absurd rfl h
 | _ :: _,0,j+1,_,_,_=>by simp [setT]
 | _ :: _,i+1,0,_,_,_=>by simp [setT]
 | x :: r,i+1,j+1,a,b,h=>by
  have:=Cc r i j a b (by omega);simp [setT,this]
theorem qN:BO (opsOf (Ab Aa8 [1,1,0,1,0,1,1,1,1,1,0]))=[[0,1,2,3,4,5,6,7],[0,1,2,4,3,5,6,7],[0,1,2,4,5,3,6,7],[0,1,4,2,3,5,6,7],[0,1,4,2,5,3,6,7],[0,1,4,5,2,3,6,7],[0,2,1,3,4,5,6,7],[0,2,1,4,3,5,6,7],[0,2,1,4,5,3,6,7],[0,2,3,1,4,5,6,7],[2,0,1,3,4,5,6,7],[2,0,1,4,3,5,6,7],[2,0,1,4,5,3,6,7],[2,0,3,1,4,5,6,7],[2,3,0,1,4,5,6,7]]:=by kernel_rfl
theorem oE (k n m:Int) (d:Int) (c a:List UInt8) (d':Int) (c' a' nm:List UInt8) (e:List PV) (h1:getT e 1=.bp 0 0) (h3:getT e 3=.bp 1 0) :
 drawAll CC (Ad CC) (opsOf (Ab Aa8 [1,1,0,1,0,1,1,1,1,1,0])) ⟨e,[.cells 58 [.int .i64 k,.int .i64 d,.str c,.str a,.int .i64 d',.str c',.str a',.str nm,.int .i64 n,.int .i64 m],.cells 58 [.int .i64 k,.int .i64 0,.str [],.str [],.int .i64 0,.str [],.str [],.str [],.int .i64 0,.int .i64 0]]⟩ =
  some (.normal,⟨setT (setT (setT (setT (setT (setT e 21 (.bp 0 8)) 22 (.int .i64 n)) 23 (.bp 0 9)) 24 (.int .i64 m)) 25 (.bp 1 8)) 26 (.bp 1 9),[.cells 58 [.int .i64 k,.int .i64 d,.str c,.str a,.int .i64 d',.str c',.str a',.str nm,.int .i64 n,.int .i64 m],.cells 58 [.int .i64 k,.int .i64 0,.str [],.str [],.int .i64 0,.str [],.str [],.str [],.int .i64 n,.int .i64 m]]⟩):=by
 refine AV.2 ⟨by rw [qN];simp,fun l hl=>?_⟩;rw [qN] at hl;rw [<- Mv];simp only [Aan,List.not_mem_nil,or_false] at hl;rcases hl with rfl | rfl | rfl | rfl | rfl | rfl | rfl | rfl | rfl | rfl | rfl | rfl | rfl | rfl | rfl
 all_goals
  simp only [opsOf,Ab,Ac,Aa8,Aa0,AR,List.filterMap_cons,List.filterMap_nil,List.getElem?_toArray,List.getElem?_cons_succ,List.getElem?_cons_zero];simp only [S9,A5,seval,Aa9,Aaa,h1,h3,nP1]
  repeat (first | rw [Cc _ 26 25 _ _ (by decide)] | rw [Cc _ 26 24 _ _ (by decide)] | rw [Cc _ 26 23 _ _ (by decide)] | rw [Cc _ 26 22 _ _ (by decide)] | rw [Cc _ 26 21 _ _ (by decide)] | rw [Cc _ 25 24 _ _ (by decide)] | rw [Cc _ 25 23 _ _ (by decide)] | rw [Cc _ 25 22 _ _ (by decide)] | rw [Cc _ 25 21 _ _ (by decide)] | rw [Cc _ 24 23 _ _ (by decide)] | rw [Cc _ 24 22 _ _ (by decide)] | rw [Cc _ 24 21 _ _ (by decide)] | rw [Cc _ 23 22 _ _ (by decide)] | rw [Cc _ 23 21 _ _ (by decide)] | rw [Cc _ 22 21 _ _ (by decide)])
def sA (x y:Option Bool):Option Bool:=match x with
 | some true=>y
 | o=>o
theorem gp (x y:Bool):Kj x (some y)=some (x && y):=by cases x <;> rfl
theorem gq (x y:Bool):sA (some x) (some y)=some (x && y):=by cases x <;> rfl
theorem gr (k k2 n n2 m m2 d d2 e e2:Int) (c a f g nm c2 a2 f2 g2 nm2:List UInt8) :
 Mu CC 100 58 (.agg [.int .i64 k,.int .i64 d,.str c,.str a,.int .i64 e,.str f,.str g,.str nm,.int .i64 n,.int .i64 m]) (.agg [.int .i64 k2,.int .i64 d2,.str c2,.str a2,.int .i64 e2,.str f2,.str g2,.str nm2,.int .i64 n2,.int .i64 m2]) =
  some ((k == k2) && (ED (d,c,a) (d2,c2,a2) && (ED (e,f,g) (e2,f2,g2) && ((nm == nm2) && ((n == n2) && (m == m2)))))):=by
 have h:Mu CC 100 58 (.agg [.int .i64 k,.int .i64 d,.str c,.str a,.int .i64 e,.str f,.str g,.str nm,.int .i64 n,.int .i64 m]) (.agg [.int .i64 k2,.int .i64 d2,.str c2,.str a2,.int .i64 e2,.str f2,.str g2,.str nm2,.int .i64 n2,.int .i64 m2]) =
  Kj (k == k2) (sA (Kj (d == d2) (Kj (c == c2) (Kj (a == a2) (some true)))) (sA (Kj (e == e2) (Kj (f == f2) (Kj (g == g2) (some true)))) (Kj (nm == nm2) (Kj (n == n2) (Kj (m == m2) (some true)))))):=by kernel_rfl
 rw [h];simp only [gp,gq,Aap,ED,Aac]
theorem gv:CC.P.eqGuardType CC.P.depth 58=false:=by kernel_rfl
theorem Lf (k:Int):A9 CC 58 [(0,.int .i64 k)]=some (.agg [.int .i64 k,.int .i64 0,.str [],.str [],.int .i64 0,.str [],.str [],.str [],.int .i64 0,.int .i64 0]):=by kernel_rfl
theorem II (v:Ky):ED v v=true:=by simp [ED]
theorem Vp (v w:Ky):ED v w=ED w v:=by
 unfold ED;rw [Aam (a:=v.1),Aam (a:=v.2.1),Aam (a:=v.2.2)]
def zI (k:Int) (key ev:Ky) (nm:List UInt8) (n m:Int) (key1 ev1:Ky) (nm1:List UInt8) (n1 m1:Int):Bool:=(k == k) && (ED key1 key && (ED ev1 ev && ((nm1 == nm) && ((n1 == n) && (m1 == m)))))
theorem sB (k:Int) (key ev:Ky) (nm:List UInt8) (n m:Int) :
 zI k key ev nm n m (if k=1 then key else (0,[],[])) (if k=2 then ev else (0,[],[])) (if k=4 then nm else []) (if k=3\/k=6 then n else 0) (if k=3 then m else 0)=!(YX ⟨k,key,ev,nm,n,m⟩):=by
 unfold zI YX oC;simp only [beq_self_eq_true,Bool.true_and];rw [Vp _ key,Vp _ ev];have en:∀ x:Int,(0 == x)=!(x != 0):=fun x=>by simp [bne,Aam (a:=(0:Int))]
 have es:([] == nm)=(nm == []):=Aam;by_cases k1:k=1
 · subst k1;simp [II,en,es,Aac]
 by_cases k2:k=2
 · subst k2;simp [II,en,es,Aac]
 by_cases k3:k=3
 · subst k3;simp [II,en,es,Aac]
 by_cases k4:k=4
 · subst k4;simp [II,en,es,Aac]
 by_cases k6:k=6
 · subst k6;simp [II,en,es,Aac]
 have p1:(k == 1)=false:=by simpa using k1
 have p2:(k == 2)=false:=by simpa using k2
 have p3:(k == 3)=false:=by simpa using k3
 have p4:(k == 4)=false:=by simpa using k4
 have p6:(k == 6)=false:=by simpa using k6
 simp [k1,k2,k3,k4,k6,p1,p2,p3,p4,p6,en,es,Aac]
theorem OH (t:Tg):∃ bx,Ad CC 57 [BR t] []=some (.ret (.bool (!(YX t))),bx):=by
 obtain ⟨k,key,S5,nm,n,m⟩:=t;rw [<- sB];obtain ⟨d,c,a⟩:=key;obtain ⟨d',c',a'⟩:=S5;unfold BR zI;simp only;rw [CN (fn:=Aa8) (c:=Aa8.body.getD .skip) rfl rfl gm rfl gl gk (Aab rfl)];have ER:=oE k n m d c a d' c' a' nm;simp only [<- A6 kH] at ER;by_cases k1:k=1
 · subst k1
   rw [<- Cf];simp only [Ab,Ac,Aa8,Aa0];simp only [S9,A5,seval,gr,gv,Lf,gj,Aa9,Aaa];exact ⟨_,rfl⟩
 by_cases k2:k=2
 · subst k2
   rw [<- Cf];simp only [Ab,Ac,Aa8,Aa0];simp only [S9,A5,seval,gr,gv,Lf,gj,Aa9,Aaa];exact ⟨_,rfl⟩
 by_cases k3:k=3
 · subst k3
   rw [<- Cf];rw [<- IQ] at ER;simp only [opsOf,Ab,Ac,Aa8,Aa0] at ER |-;simp only [S9,A5,seval,gr,gv,Lf,gj,Aa9,Aaa,ER];exact ⟨_,rfl⟩
 by_cases k4:k=4
 · subst k4
   rw [<- Cf];simp only [Ab,Ac,Aa8,Aa0];simp only [S9,A5,seval,gr,gv,Lf,gj,Aa9,Aaa];exact ⟨_,rfl⟩
 by_cases k6:k=6
 · subst k6
   rw [<- Cf];simp only [Ab,Ac,Aa8,Aa0];simp only [S9,A5,seval,gr,gv,Lf,gj,Aa9,Aaa];exact ⟨_,rfl⟩
 have p1:(k == 1)=false:=by simpa using k1
 have p2:(k == 2)=false:=by simpa using k2
 have p3:(k == 3)=false:=by simpa using k3
 have p4:(k == 4)=false:=by simpa using k4
 have p6:(k == 6)=false:=by simpa using k6
 rw [if_neg k1,if_neg k2,if_neg k4,if_neg (by omega),if_neg k3];rw [<- Cf];simp only [Ab,Ac,Aa8,Aa0];simp only [S9,A5,seval,gr,gv,Lf,gj,Aa9,Aaa,p1,p2,p3,p4,p6];exact ⟨_,rfl⟩
theorem Su (t:Tg) (bx):Ai CC (Ad CC) 57 [BR t] bx=some (.ret (.bool (!(YX t))),bx):=by
 obtain ⟨b,h⟩:=OH t;exact Aq rfl (by simp only [AO,KW,Bu,Aad]) h rfl
theorem OI (t:Tg) (hp:Uk t=true) (bx):Ai CC (Ad CC) 30 [BR t] bx=some (.ret (.int .i64 (NM t)),bx):=by
 obtain ⟨b,h⟩:=Mi Su t hp;exact Aq rfl (by simp only [AO,KW,Bu,Aad]) h rfl
theorem OJ (r:Rl) (hp:Nu r=true) (bx):Ai CC (Ad CC) 11 [Ew r] bx=some (.ret (.int .i64 (Vo r)),bx):=by
 obtain ⟨b,h⟩:=OF (fun t ht=>OI t ht) r hp;exact Aq rfl (by simp only [AO,KX,Bu,Aad]) h rfl
end Go.HH
