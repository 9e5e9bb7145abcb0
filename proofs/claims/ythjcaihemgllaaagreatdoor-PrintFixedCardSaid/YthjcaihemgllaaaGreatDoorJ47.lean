/-
  What the law needs, packed: LA LB LE LF LG LH LI LK LL SL UP.
-/
import Derived.Test.YthjcaihemgllaaaGreatDoorJ46
open List renaming length_cons->Aa0,length_nil->Aa1,length_append->Aa2,length_set->Aa4,length_map->Aa5,getElem?_concat_length->Aa7,set_cons_succ->Aa8,append_assoc->Aab,mem_range->Aad,append_nil->Aaf,range->Aag,contains_iff_mem->Aai,cons_append->Aaj,nil_append->Aak,getElem?_append_right->Aal,drop_eq_getElem_cons->Aam,getElem?_map->Aan,getElem?_eq_getElem->Aap,getElem_mem->Aaq,all_eq_true->Aar,drop_eq_nil_of_le->Aat,set_append_right->Aau,set_cons_zero->Aax,flatMap_cons->Aay,mem_reverse->Ab0,nodup_cons->Ab2,drop_zero->Ab3,getElem?_append_left->Ab4,mem_cons->Ab5,all_cons->Ab6,length_singleton->Ab9,mem_cons_of_mem->Aba,getD_cons_zero->Abb,getD_cons_succ->Abc,mem_singleton->Abd,mem_cons_self->Abe,mem_flatMap->Abf,flatMap_nil->Abg,map_append->Abh,all_append->Abi
open Option renaming getD->Aa3
open Go.Proofs.Tryz renaming f19->Aa6,f39->Aaa,f84->Aac,f112->Aae,f86->Aah,f40->Aav,f55->Abj,f26->Abk,f25->Abl
open Nat renaming le_of_ble_eq_true->Aa9,le_refl->Aao,sub_self->Aaz,zero_add->Ab8,zero_le->Abo
open Go.Lib renaming itoa->Aas
open Go.Code renaming loop->Aaw
open Bool renaming and_eq_true->Ab1,not_not->Ab7,and_true->Abm,and_self->Abn
namespace Go.HH
open Go Go.Proofs
set_option maxRecDepth 100000
set_option linter.unusedSimpArgs false
set_option linter.unusedVariables false
def Ta (t:Tg):List UInt8:=
 if t.k=1 then cat [99,104,97,110,103,101,32] (E8 t.key.1 t.key.2.1 t.key.2.2) else if t.k=2 then cat [101,118,101,110,116,32] (E8 t.ev.1 t.ev.2.1 t.ev.2.2) else
 if t.k=3 then (if t.m=127 then cat [116,105,109,101,32] (FL t.n.toNat) else cat (cat (cat [116,105,109,101,32] (FL t.n.toNat)) [32]) (P7 t.m.toNat)) else
 if t.k=4 then (if t.nm=[] then [109,111,100,101] else cat [109,111,100,101,32] t.nm) else if t.k=5 then [115,116,97,114,116] else cat [104,111,108,100,32] (Aas t.n)
def Vq (s:Sp):List UInt8:=
 if s.k=1 then cat (cat (cat [115,101,116,32] (E8 s.key.1 s.key.2.1 s.key.2.2)) [32,61,32]) (EN (an s.ex) 0) else
 if s.k=2 then (if cZ s.ex=true then cat [99,97,108,108,32] (E8 s.key.1 s.key.2.1 s.nm) else cat (cat (cat (cat [99,97,108,108,32] (E8 s.key.1 s.key.2.1 s.nm)) [40]) (EN (an s.ex) 0)) [41]) else
 if s.k=3 then cat [115,99,101,110,101,32] s.nm else if s.k=4 then cat [109,111,100,101,32] s.nm else cat [110,111,116,105,102,121,32] (BC s.nm)
def uY (r:Rl):List UInt8:=cat (cat (cat (cat [114,117,108,101,32] r.nm) [32,112,114,105,111,114,105,116,121,32]) (Aas r.pr)) [32,123,10]
def kI (t:Tg):List UInt8:=cat (cat [32,32,111,110,32] (Ta t)) [59,10]
def kJ (t:Tr):List UInt8:=cat (cat [32,32,105,102,32] (EN (an t) 0)) [59,10]
def kK (s:Sp):List UInt8:=cat (cat [32,32,100,111,32] (Vq s)) [59,10]
def Sv (t:Tr):Bool:=aS t 1 0 0 [] (1,1,[]) (0,[],[])
def Vr (r:Rl):List UInt8:=uY r++r.on.flatMap kI++(if Sv r.ife=true then [] else kJ r.ife)++r.dos.flatMap kK++[125,10]
theorem WX {α:Type} {f:α->Int}:∀ {l:List α},Xt f l=0->∀ x ∈ l,f x=0
 | [],_,x,hx=>by simp at hx
 | y :: r,h,x,hx=>by
  unfold Xt at h;split at h
  · rename_i hh;exact absurd h hh
  · rename_i hh
    rcases Ab5.1 hx with rfl | hx
    · omega
    · exact WX h x hx
theorem OK {r:Rl} (h:Vo r=0):BQ r.nm=true/\0<=r.pr/\r.pr<=100/\(∀ t ∈ r.on,NM t=0)/\Km r.ife=0/\∀ s ∈ r.dos,Qd s=0:=by
 unfold Vo at h;split at h
 · omega
 rename_i h0;split at h
 · omega
 split at h
 · omega
 split at h
 · rename_i hh;exact absurd h hh
 rename_i h3;split at h
 · rename_i hh;exact absurd h hh
 rename_i h4;exact ⟨by simpa using h0,by omega,by omega,WX (by omega),by omega,WX h⟩
set_option maxHeartbeats 4000000
theorem Sw:Be CC Aac (Aac.body.getD .skip)=true:=by kernel_rfl
theorem Qg:CC.P.funcs[84]?=some Aac:=by kernel_rfl
theorem Qh:Be CC Aah (Aah.body.getD .skip)=true:=by kernel_rfl
theorem OL:CC.P.funcs[86]?=some Aah:=by kernel_rfl
theorem WY {n:Int} {a b:List UInt8} (h:Um n a b=0):Dx n:=by
 unfold Um at h;split at h
 · omega
 · rename_i hd
   have hd:YW n=true:=by simpa using hd
   unfold YW at hd;have hd:=of_decide_eq_true hd;exact ⟨by omega,by omega⟩
theorem Vs (s:List UInt8):(BC s).length<=4 * s.length+2:=by
 have:=Wb s;rw [EE];omega
theorem HM {d:Int} {a b:List UInt8} (h:Dx d):(E8 d a b).length<=23+a.length+b.length:=by
 have:=Dk h;unfold E8;simp only [AD,Ab9];omega
theorem Nx (n:Nat):(FL n).length=5:=rfl
theorem kM:∀ n:_root_.Fin 128,(P7 n.val).length<=100:=by decide +kernel
theorem dx {n:Nat} (h:n < 128):(P7 n).length<=100:=kM ⟨n,h⟩
theorem Vt {t:Tg} (h:NM t=0):(1<=t.k/\t.k<=6)/\(t.k=1->Dx t.key.1)/\(t.k=2->Dx t.ev.1)/\(t.k=3->0<=t.n/\t.n < 1440/\1<=t.m/\t.m<=127)/\(t.k=6->Dx t.n):=by
 unfold NM at h;split at h
 · omega
 split at h
 · omega
 refine ⟨by omega,fun k=>?_,fun k=>?_,fun k=>?_,fun k=>?_⟩
 · rw [if_pos k] at h
   exact WY h
 · rw [if_neg (by omega),if_pos k] at h
   exact WY h
 · rw [if_neg (by omega),if_neg (by omega),if_pos k] at h
   split at h <;> omega
 · rw [if_neg (by omega),if_neg (by omega),if_neg (by omega),if_neg (by omega),if_pos k] at h
   split at h
   · exact ⟨by omega,by omega⟩
   · omega
theorem bo (t:Tg) (hp:Uk t=true) (h:NM t=0):∃ bx,Ad CC 84 [BR t] []=some (.ret (.str (Ta t)),bx):=by
 obtain ⟨l1,l2,l3,l4,l5⟩:=Sn hp;obtain ⟨g0,g1,g2,g3,g6⟩:=Vt h;clear h hp;unfold Ta;obtain ⟨k,key,Hp,nm,n,m⟩:=t;obtain ⟨d,c,a⟩:=key;obtain ⟨d',c',a'⟩:=Hp;simp only at l1 l2 l3 l4 l5 g0 g1 g2 g3 g6 |-;unfold BR;simp only;rw [Ah (fn:=Aac) (c:=Aac.body.getD .skip) rfl rfl Qg rfl Sw (Aa9 rfl)];by_cases k1:k=1
 · have o:=IG d c a (g1 k1) (by omega) (by omega)
   have cA:=Cp (a:=[99,104,97,110,103,101,32]) (b:=E8 d c a) (by have:=HM (a:=c) (b:=a) (g1 k1);simp only [Aa0,Aa1];omega);subst k1;rw [if_pos rfl];generalize E8 d c a=s at *;clear g0 g1 g2 g3 g6;rw [<- An];rw [<- AL] at o;simp only [Ab,Ac,Aac,Aa3];simp only [S8,Ag,SG,seval,UT,SC,o,cA];exact ⟨_,rfl⟩
 rw [if_neg k1];by_cases k2:k=2
 · have o:=IG d' c' a' (g2 k2) (by omega) (by omega)
   have cA:=Cp (a:=[101,118,101,110,116,32]) (b:=E8 d' c' a') (by have:=HM (a:=c') (b:=a') (g2 k2);simp only [Aa0,Aa1];omega);subst k2;rw [if_pos rfl];generalize E8 d' c' a'=s at *;clear g0 g1 g2 g3 g6;rw [<- An];rw [<- AL] at o;simp only [Ab,Ac,Aac,Aa3];simp only [S8,Ag,SG,seval,UT,SC,o,cA];exact ⟨_,rfl⟩
 rw [if_neg k2];by_cases k3:k=3
 · obtain ⟨q1,q2,q3,q4⟩:=g3 k3
   have o:=Sg n ⟨q1,q2⟩;have o2:=dq m ⟨q3,q4⟩;have cA:=Cp (a:=[116,105,109,101,32]) (b:=FL n.toNat) (by rw [Nx];simp only [Aa0,Aa1];omega);have cB:=Cp (a:=cat [116,105,109,101,32] (FL n.toNat)) (b:=[32]) (by rw [AD,Nx];simp only [Aa0,Aa1];omega);have cC:=Cp (a:=cat (cat [116,105,109,101,32] (FL n.toNat)) [32]) (b:=P7 m.toNat) (by have:=dx (n:=m.toNat) (by omega);rw [AD,AD,Nx];simp only [Aa0,Aa1];omega);subst k3;rw [if_pos rfl];generalize FL n.toNat=s at *;generalize P7 m.toNat=w at *;clear g0 g1 g2 g3 g6;by_cases km:m=127
   · rw [if_pos km]
     subst km;rw [<- An];rw [<- AL] at o o2;simp only [Ab,Ac,Aac,Aa3];simp only [S8,Ag,SG,seval,UT,SC,o,cA];exact ⟨_,rfl⟩
   · rw [if_neg km]
     have kmp:(m == 127)=false:=by simpa using km
     rw [<- An];rw [<- AL] at o o2;simp only [Ab,Ac,Aac,Aa3];simp only [S8,Ag,SG,seval,UT,SC,o,o2,cA,cB,cC,kmp];exact ⟨_,rfl⟩
 rw [if_neg k3];by_cases k4:k=4
 · have cA:=Cp (a:=[109,111,100,101,32]) (b:=nm) (by simp only [Aa0,Aa1];omega)
   have he:EB .eql nm []=some (.bool (nm == [])):=rfl;subst k4;rw [if_pos rfl];clear g0 g1 g2 g3 g6;by_cases kn:nm=[]
   · rw [if_pos kn]
     have hb:(nm == [])=true:=by rw [kn];rfl
     rw [hb] at he;rw [<- An];simp only [Ab,Ac,Aac,Aa3];simp only [S8,Ag,SG,seval,UT,SC,he];exact ⟨_,rfl⟩
   · rw [if_neg kn]
     have hb:(nm == [])=false:=by simpa using kn
     rw [hb] at he;rw [<- An];simp only [Ab,Ac,Aac,Aa3];simp only [S8,Ag,SG,seval,UT,SC,he,cA];exact ⟨_,rfl⟩
 rw [if_neg k4];by_cases k5:k=5
 · subst k5
   rw [if_pos rfl];clear g0 g1 g2 g3 g6;rw [<- An];simp only [Ab,Ac,Aac,Aa3];simp only [S8,Ag,SG,seval,UT,SC];exact ⟨_,rfl⟩
 rw [if_neg k5];have k6:k=6:=by omega
 have o:=EH n (g6 k6);have cA:=Cp (a:=[104,111,108,100,32]) (b:=Aas n) (by have:=Dk (g6 k6);simp only [Aa0,Aa1];omega);subst k6;generalize Aas n=s at *;clear g0 g1 g2 g3 g6;rw [<- An];rw [<- AL] at o;simp only [Ab,Ac,Aac,Aa3];simp only [S8,Ag,SG,seval,UT,SC,o,cA];exact ⟨_,rfl⟩
theorem kN (t:Tg) (hp:Uk t=true) (h:NM t=0) (bx):Ai CC (Ad CC) 84 [BR t] bx=some (.ret (.str (Ta t)),bx):=by
 obtain ⟨b,hc⟩:=bo t hp h;exact Aq rfl rfl hc rfl
theorem Vu {s:Sp} (h:Qd s=0):(1<=s.k/\s.k<=5)/\(s.k=1->Dx s.key.1/\Km s.ex=0)/\(s.k=2->Dx s.key.1/\(cZ s.ex=false->Km s.ex=0)):=by
 unfold Qd at h;split at h
 · rename_i k1
   refine ⟨by omega,fun _=>?_,fun k=>by omega⟩;split at h
   · omega
   split at h
   · rename_i hh;exact absurd h hh
   · rename_i hn
     exact ⟨WY (a:=s.key.2.1) (b:=s.key.2.2) (by omega),h⟩
 split at h
 · rename_i k2
   refine ⟨by omega,fun k=>by omega,fun _=>?_⟩;split at h
   · omega
   split at h
   · rename_i hh;exact absurd h hh
   · rename_i hn
     refine ⟨WY (a:=s.key.2.1) (b:=s.nm) (by omega),fun hx=>?_⟩;rw [hx,if_neg (by simp)] at h;exact h
 split at h
 · refine ⟨by omega,fun k=>by omega,fun k=>by omega⟩
 · omega
theorem Sx {t:Tr} (hm:0<=Xq t 220 30) (ht:Kl t) (h:Km t=0):Nt t/\(TX t).length<=140000/\∀ least,(EN (an t) least).length<=140002:=by
 have hs:=U5 t 220 30 hm;have hn:=sn hm;have h1:=(qM t (sj h) hs ht (by omega)).1
 have h2:(TX t).length<=140000:=by
  have:=bm t (sj h) hs ht;omega
 refine ⟨h1,h2,fun least=>?_⟩;have:=Dl (an t) least;have e:TX t=(an t).s:=rfl;rw [e] at h2;omega
theorem YY (s:Sp) (hp:Ul s=true) (ho:Kl s.ex) (h:Qd s=0):∃ bx,Ad CC 86 [F9 s] []=some (.ret (.str (Vq s)),bx):=by
 obtain ⟨l1,l2,l3,l4⟩:=Sq hp;obtain ⟨g0,g1,g2⟩:=Vu h
 have hk:Km s.ex=0->(∀ bx,Ai CC (Ad CC) 69 [BE s.ex,.int .i64 0] bx=some (.ret (.str (EN (an s.ex) 0)),bx))/\(EN (an s.ex) 0).length<=140002:=fun hc=>by
  obtain ⟨t1,t2,t3⟩:=Sx l4 ho hc;exact ⟨fun bx=>H9 s.ex t1 (by omega) 0 bx,t3 0⟩
 have onn:=LP s.ex;clear h hp;unfold Vq;obtain ⟨k,key,nm,ex⟩:=s;obtain ⟨d,c,a⟩:=key;simp only at l1 l2 l3 g0 g1 g2 hk onn |-;generalize cZ ex=nn at *;generalize Km ex=ck at *;generalize EN (an ex) 0=x at *;clear l4 ho;unfold F9 Zz;obtain ⟨zk,zn,zm,znm,zv,zkey,zkids⟩:=ex;unfold BE at onn hk |-;have uQ:=AY zkids;generalize A8 zkids=zs at *;simp only [SA,Aaj,Aak] at onn hk |-;rw [Ah (fn:=Aah) (c:=Aah.body.getD .skip) rfl rfl OL rfl Qh (Aa9 rfl)];by_cases k1:k=1
 · obtain ⟨hi,hc⟩:=g1 k1
   obtain ⟨o1,lx⟩:=hk hc;have o:=IG d c a hi (by omega) (by omega);have hl:=HM (a:=c) (b:=a) hi;generalize E8 d c a=w at *;have cA:=Cp (a:=[115,101,116,32]) (b:=w) (by simp only [Aa0,Aa1];omega);have cB:=Cp (a:=cat [115,101,116,32] w) (b:=[32,61,32]) (by rw [AD];simp only [Aa0,Aa1];omega);have cC:=Cp (a:=cat (cat [115,101,116,32] w) [32,61,32]) (b:=x) (by rw [AD,AD];simp only [Aa0,Aa1];omega);subst k1;rw [if_pos rfl];clear g0 g1 g2 hk;rw [<- An];rw [<- AL] at o o1;simp only [Ab,Ac,Aah,Aa3];simp only [S8,Ag,SG,seval,UT,SC,o,o1,cA,cB,cC,uQ];exact ⟨_,rfl⟩
 rw [if_neg k1];by_cases k2:k=2
 · obtain ⟨hi,hc⟩:=g2 k2
   have o:=IG d c nm hi (by omega) (by omega);have hl:=HM (a:=c) (b:=nm) hi;generalize E8 d c nm=w at *;have cA:=Cp (a:=[99,97,108,108,32]) (b:=w) (by simp only [Aa0,Aa1];omega);subst k2;rw [if_pos rfl];cases nn with
   | true=>
    rw [if_pos rfl];clear g0 g1 g2 hk hc;rw [<- An];rw [<- AL] at o onn;simp only [Ab,Ac,Aah,Aa3];simp only [S8,Ag,SG,seval,UT,SC,o,onn,cA,uQ];exact ⟨_,rfl⟩
   | false=>
    rw [if_neg (by simp)];obtain ⟨o1,lx⟩:=hk (hc rfl);have cB:=Cp (a:=cat [99,97,108,108,32] w) (b:=[40]) (by rw [AD];simp only [Aa0,Aa1];omega);have cC:=Cp (a:=cat (cat [99,97,108,108,32] w) [40]) (b:=x) (by rw [AD,AD];simp only [Aa0,Aa1];omega);have cD:=Cp (a:=cat (cat (cat [99,97,108,108,32] w) [40]) x) (b:=[41]) (by rw [AD,AD,AD];simp only [Aa0,Aa1];omega);clear g0 g1 g2 hk hc;rw [<- An];rw [<- AL] at o onn o1;simp only [Ab,Ac,Aah,Aa3];simp only [S8,Ag,SG,seval,UT,SC,o,onn,o1,cA,cB,cC,cD,uQ];exact ⟨_,rfl⟩
 rw [if_neg k2];clear hk onn;by_cases k3:k=3
 · have cA:=Cp (a:=[115,99,101,110,101,32]) (b:=nm) (by simp only [Aa0,Aa1];omega)
   subst k3;rw [if_pos rfl];clear g0 g1 g2;rw [<- An];simp only [Ab,Ac,Aah,Aa3];simp only [S8,Ag,SG,seval,UT,SC,cA];exact ⟨_,rfl⟩
 rw [if_neg k3];by_cases k4:k=4
 · have cA:=Cp (a:=[109,111,100,101,32]) (b:=nm) (by simp only [Aa0,Aa1];omega)
   subst k4;rw [if_pos rfl];clear g0 g1 g2;rw [<- An];simp only [Ab,Ac,Aah,Aa3];simp only [S8,Ag,SG,seval,UT,SC,cA];exact ⟨_,rfl⟩
 rw [if_neg k4];have k5:k=5:=by omega
 have o:=Kp nm (by omega);have cA:=Cp (a:=[110,111,116,105,102,121,32]) (b:=BC nm) (by have:=Vs nm;simp only [Aa0,Aa1];omega);subst k5;generalize BC nm=w at *;clear g0 g1 g2;rw [<- An];rw [<- AL] at o;simp only [Ab,Ac,Aah,Aa3];simp only [S8,Ag,SG,seval,UT,SC,o,cA];exact ⟨_,rfl⟩
theorem gx (s:Sp) (hp:Ul s=true) (ho:Kl s.ex) (h:Qd s=0) (bx):Ai CC (Ad CC) 86 [F9 s] bx=some (.ret (.str (Vq s)),bx):=by
 obtain ⟨b,hc⟩:=YY s hp ho h;exact Aq rfl (by simp only [AO,Hk,Bu,Abn]) hc rfl
theorem kO {r:Rl} (h:r.nm.length<=100) (h2:Dx r.pr):(uY r).length<=200:=by
 have:=Dk h2;unfold uY;simp only [AD,Aa0,Aa1];omega
theorem kP {t:Tg} (hp:Uk t=true) (h:NM t=0):(Ta t).length<=1000:=by
 obtain ⟨l1,l2,l3,l4,l5⟩:=Sn hp;obtain ⟨g0,g1,g2,g3,g6⟩:=Vt h;unfold Ta;split
 · rename_i k
   have:=HM (a:=t.key.2.1) (b:=t.key.2.2) (g1 k);simp only [AD,Aa0,Aa1];omega
 split
 · rename_i k
   have:=HM (a:=t.ev.2.1) (b:=t.ev.2.2) (g2 k);simp only [AD,Aa0,Aa1];omega
 split
 · rename_i k
   have:=g3 k;have:=dx (n:=t.m.toNat) (by omega);split
   · simp only [AD,Nx,Aa0,Aa1]
     omega
   · simp only [AD,Nx,Aa0,Aa1]
     omega
 split
 · split
   · simp only [Aa0,Aa1]
     omega
   · simp only [AD,Aa0,Aa1]
     omega
 split
 · simp only [Aa0,Aa1]
   omega
 · have:=Dk (g6 (by omega))
   simp only [AD,Aa0,Aa1];omega
theorem kQ {s:Sp} (hp:Ul s=true) (ho:Kl s.ex) (h:Qd s=0):(Vq s).length<=141000:=by
 obtain ⟨l1,l2,l3,l4⟩:=Sq hp;obtain ⟨g0,g1,g2⟩:=Vu h;unfold Vq;split
 · rename_i k
   have:=HM (a:=s.key.2.1) (b:=s.key.2.2) (g1 k).1;have:=(Sx l4 ho (g1 k).2).2.2 0;simp only [AD,Aa0,Aa1];omega
 split
 · rename_i k
   have:=HM (a:=s.key.2.1) (b:=s.nm) (g2 k).1;split
   · simp only [AD,Aa0,Aa1]
     omega
   · rename_i hx
     have:=(Sx l4 ho ((g2 k).2 (by simpa using hx))).2.2 0;simp only [AD,Aa0,Aa1];omega
 split
 · simp only [AD,Aa0,Aa1]
   omega
 split
 · simp only [AD,Aa0,Aa1]
   omega
 · have:=Vs s.nm
   simp only [AD,Aa0,Aa1];omega
theorem Ny:Be CC Aav (Aav.body.getD .skip)=true:=by kernel_rfl
theorem Mj:CC.P.funcs[40]?=some Aav:=by kernel_rfl
theorem Sy:Be CC Aaa (Aaa.body.getD .skip)=true:=by kernel_rfl
theorem Qi:CC.P.funcs[39]?=some Aaa:=by kernel_rfl
def QB (l:List UInt8):PBox:=.cells 72 [Dy l]
def WB (bs:List PBox) (pg:Nat) (acc:List UInt8) (b2:PBox) (ex:List PBox):List PBox:=bs.set pg (QB acc)++b2 :: ex
section
variable (bs:List PBox) (pg:Nat) (b2:PBox) (acc:List UInt8) (ex:List PBox)
theorem Jp:(WB bs pg acc b2 ex).length=ex.length+(bs.length+1):=by
 unfold WB;rw [Aa2,Aa4,Aa0];omega
theorem WZ:(WB bs pg acc b2 ex)[bs.length]?=some b2:=by
 unfold WB;rw [Aal (by rw [Aa4];exact Aao _),Aa4,Aaz];rfl
theorem Jq (x:PBox):WB bs pg acc b2 ex++[x]=WB bs pg acc b2 (ex++[x]):=by
 unfold WB;rw [Aab];rfl
theorem GL (x:PBox):(WB bs pg acc b2 (ex++[x]))[ex.length+(bs.length+1)]?=some x:=by
 unfold WB;rw [Aal (by rw [Aa4];omega),Aa4,show ex.length+(bs.length+1) - bs.length=ex.length+1 from by omega,List.getElem?_cons_succ,Aa7]
theorem Nz (x y:PBox):(WB bs pg acc b2 (ex++[x])).set (ex.length+(bs.length+1)) y=WB bs pg acc b2 (ex++[y]):=by
 unfold WB;rw [Aau _ _ (by rw [Aa4];omega),Aa4,show ex.length+(bs.length+1) - bs.length=ex.length+1 from by omega,Aa8,Aau _ _ (Aao _),Aaz];rfl
theorem wL:bs.set pg (QB acc)++[b2]=WB bs pg acc b2 []:=rfl
end
theorem YZ {size:Nat} {e:TypeId} {st:St} {al:List (Nat×Loc)} {l:Option Loc} {xs ys:List PV} {d:Option Tmp} (h:xs.length+ys.length<=160000000) (hy:(ys.all fun y=>y.cells.length == size)=true) :
 MH 1 size e st al l xs ys d=some (.next ((Mx st l xs).put d (.osl e (xs++ys))) (Ak al d)):=by
 unfold MH;rw [if_neg]
 rintro (h1 | h1 | h1)
 · unfold Gc at h1
   omega
 · unfold Gc at h1
   omega
 · rw [hy] at h1;cases h1
theorem kR (bs:List PBox) (pg:Nat) (Xy:pg < bs.length) (acc w:List UInt8) (r:List PBox) (hl:acc.length+w.length<=150000000) (hw:w≠[]):Ad CC 40 [.bp pg 0,.str w] (bs.set pg (QB acc)++r)=some (.ret (.tup []),bs.set pg (QB (acc++w))++r):=by
 have hgp:∀ P r,(bs.set pg P++r)[pg]?=some P:=fun P r=>by rw [Ab4 (by rw [Aa4];exact Xy),List.getElem?_set_self Xy]
 have vj:∀ P Q r,(bs.set pg P++r).set pg Q=bs.set pg Q++r:=fun P Q r=>by rw [List.set_append_left _ _ (by rw [Aa4];exact Xy),List.set_set]
 rw [Ah (fn:=Aav) (c:=Aav.body.getD .skip) rfl rfl Mj rfl Ny (Aa9 rfl)];have uo:=Ha acc;have hwl:=Ha w;have Zk:=Rw acc w;have EA:=cz w;have hc:(GQ acc).length+(GQ w).length<=160000000:=by omega
 have Xh:(GQ w).length<=160000000:=by omega
 have hb:Dy (acc++w)=.osl 5 (GQ (acc++w)):=by
  unfold Dy;rw [if_neg (by simp [hw])]
 have hpn:Al [.bp pg 0]=false:=rfl;unfold QB;rw [hb,Zk];clear hb Zk;unfold Dy;by_cases h:acc=[]
 · subst h
   rw [if_pos rfl];have Ms:GQ []=[]:=rfl;rw [Ms] at *;generalize b8:GQ w=ys at *;rw [<- An];simp only [Ab,Ac,Aav,Aa3];simp only [S8,Ag,SG,SH,seval,U',b8,YZ,CX,hgp,vj,Abc,Abb,Wc,EA,hc,Xh,Aax,Aa8]
 · rw [if_neg h]
   generalize b8:GQ w=ys at *;generalize GQ acc=xs at *;rw [<- An];simp only [Ab,Ac,Aav,Aa3];simp only [S8,Ag,SG,SH,seval,U',b8,YZ,CX,hgp,vj,Abc,Abb,Wc,EA,hc,Aax,Aa8]
theorem OM (bs:List PBox) (pg:Nat) (Xy:pg < bs.length) (b2:PBox) (acc w:List UInt8) (ex:List PBox) (hl:acc.length+w.length<=150000000) (hw:w≠[]):Ai CC (Ad CC) 40 [.bp pg 0,.str w] (WB bs pg acc b2 ex)=some (.ret (.tup []),WB bs pg (acc++w) b2 ex):=by
 unfold Ai WB;rw [if_pos (by rfl),kR bs pg Xy acc w _ hl hw];simp only;rw [Kn (by simp)]
theorem W0 {a b:List UInt8} (h:b≠[]):cat a b≠[]:=by
 unfold cat;simp [h]
def E9 (pg:Nat):PV:=.fn 40 [.bp pg 0] []
def wM (j:Nat) (bs:List PBox) (pg:Nat) (b2:PBox) (acc:List UInt8) (res:Option (Ex×St)):Prop:=∃ e' ex',res=some (.exit j,⟨e',WB bs pg acc b2 ex'⟩)/\getT e' 0=E9 pg/\getT e' 3=.bp bs.length 0
theorem kS (L:Code) (hL:L=Ab Aaa [1,1,0,1,0]) (l:List Tg) (hl:l.length<=12) (hc:∀ t ∈ l,(∀ bx,Ai CC (Ad CC) 84 [BR t] bx=some (.ret (.str (Ta t)),bx))/\(Ta t).length<=1000) (bs:List PBox) (pg:Nat) (Xy:pg < bs.length) (b2:PBox):∀ (k i:Nat) (e:List PV) (acc:List UInt8) (ex:List PBox),i+k=l.length ->
 getT e 0=E9 pg->getT e 3=.bp bs.length 0->getT e 21=.sl (l.map BR)->getT e 22=.int .i64 l.length->getT e 23=.int .i64 i->acc.length<=130000300+1100 * i ->
 wM 0 bs pg b2 (acc++(l.drop i).flatMap kI) (Co CC L ⟨e,WB bs pg acc b2 ex⟩):=by
 intro k
 induction k with
 | zero=>
  intro i e acc ex D3 e0 e3 es el ei ha;rw [A3 (Ab Aaa [1,1,0,1,0,0]) hL];have hi:¬ ((i:Int) < (l.length:Int)):=by omega
  rw [Aat (by omega),Abg,Aaf];generalize l.map BR=xs at *;rw [<- An];simp only [Ab,Ac,Aaa,Aa3];simp only [S9,Ag,seval,Jp,WZ,Jq,GL,Nz,E9,Az,e0,e3,es,el,ei,hi];exact ⟨_,_,rfl,by simp only [S7,Ag,seval,e0,E9],by simp only [S7,Ag,seval,e3]⟩
 | succ k ih=>
  intro i e acc ex D3 e0 e3 es el ei ha;rw [A3 (Ab Aaa [1,1,0,1,0,0]) hL];have hi:((i:Int) < (l.length:Int)):=by omega
  have Gb:¬ ((i:Int) < 0):=by omega
  have IU:l.drop i=(l[i]'(by omega)) :: l.drop (i+1):=Aam (by omega);have hx:(l.map BR)[i]?=some (BR (l[i]'(by omega))):=by rw [Aan,Aap (by omega)];rfl
  have Mt:=wrap_i64 (n:=(i:Int)+1) ⟨by omega,by omega⟩;have Bc:=(hc (l[i]'(by omega)) (Aaq _)).1;have hlen:=(hc (l[i]'(by omega)) (Aaq _)).2;have key:=fun e acc ex=>ih (i+1) e acc ex (by omega);have cast1:((i+1:Nat):Int)=(i:Int)+1:=by omega
  rw [cast1] at key;rw [IU,Aay,<- Aab];have By:kI (l[i]'(by omega))=cat (cat [32,32,111,110,32] (Ta (l[i]'(by omega)))) [59,10]:=rfl;rw [By];clear By hc;generalize (l.drop (i+1)).flatMap kI=rest at *;generalize l[i]'(by omega)=x at *;generalize Ta x=s at *;generalize l.map BR=xs at *;have cA:=Cp (a:=[32,32,111,110,32]) (b:=s) (by simp only [Aa0,Aa1];omega);have cB:=Cp (a:=cat [32,32,111,110,32] s) (b:=[59,10]) (by rw [AD];simp only [Aa0,Aa1];omega);have lw:(cat (cat [32,32,111,110,32] s) [59,10]).length<=1007:=by rw [AD,AD];simp only [Aa0,Aa1];omega
  have hp:=fun ex=>OM bs pg Xy b2 acc (cat (cat [32,32,111,110,32] s) [59,10]) ex (by omega) (W0 (by simp));have yb:(acc++cat (cat [32,32,111,110,32] s) [59,10]).length<=130000300+1100 * (i+1):=by rw [Aa2];omega
  generalize cat (cat [32,32,111,110,32] s) [59,10]=w at *;obtain ⟨xk,xkey,xev,xnm,xn,xm⟩:=x;obtain ⟨xd,xcl,xat⟩:=xkey;obtain ⟨yd,yc,yn⟩:=xev;unfold BR at hx Bc;simp only at hx Bc;rw [<- An];rw [<- An] at key;rw [<- AL] at Bc hp;simp only [Ab,Ac,Aaa,Aa3];simp only [S9,Ag,seval,Jp,WZ,Jq,GL,Nz,E9,Az,e0,e3,es,el,ei,hi,Gb,hx,Mt,Bc,hp,gj,cA,cB];refine key _ _ _ ?_ ?_ ?_ ?_ ?_ yb
  all_goals simp only [S7,Ag,seval,e0,e3,es,el,ei,E9]
theorem kT (L:Code) (hL:L=Ab Aaa [1,1,1,1,0,1,0]) (l:List Sp) (hl:l.length<=12) (hc:∀ t ∈ l,(∀ bx,Ai CC (Ad CC) 86 [F9 t] bx=some (.ret (.str (Vq t)),bx))/\(Vq t).length<=141000) (bs:List PBox) (pg:Nat) (Xy:pg < bs.length) (b2:PBox):∀ (k i:Nat) (e:List PV) (acc:List UInt8) (ex:List PBox),i+k=l.length ->
 getT e 0=E9 pg->getT e 3=.bp bs.length 0->getT e 49=.sl (l.map F9)->getT e 50=.int .i64 l.length->getT e 51=.int .i64 i->acc.length<=130160000+142000 * i ->
 wM 2 bs pg b2 (acc++(l.drop i).flatMap kK) (Co CC L ⟨e,WB bs pg acc b2 ex⟩):=by
 intro k
 induction k with
 | zero=>
  intro i e acc ex D3 e0 e3 es el ei ha;rw [A3 (Ab Aaa [1,1,1,1,0,1,0,0]) hL];have hi:¬ ((i:Int) < (l.length:Int)):=by omega
  rw [Aat (by omega),Abg,Aaf];generalize l.map F9=xs at *;rw [<- An];simp only [Ab,Ac,Aaa,Aa3];simp only [S9,Ag,seval,Jp,WZ,Jq,GL,Nz,E9,Az,e0,e3,es,el,ei,hi];exact ⟨_,_,rfl,by simp only [S7,Ag,seval,e0,E9],by simp only [S7,Ag,seval,e3]⟩
 | succ k ih=>
  intro i e acc ex D3 e0 e3 es el ei ha;rw [A3 (Ab Aaa [1,1,1,1,0,1,0,0]) hL];have hi:((i:Int) < (l.length:Int)):=by omega
  have Gb:¬ ((i:Int) < 0):=by omega
  have IU:l.drop i=(l[i]'(by omega)) :: l.drop (i+1):=Aam (by omega);have hx:(l.map F9)[i]?=some (F9 (l[i]'(by omega))):=by rw [Aan,Aap (by omega)];rfl
  have Mt:=wrap_i64 (n:=(i:Int)+1) ⟨by omega,by omega⟩;have Bc:=(hc (l[i]'(by omega)) (Aaq _)).1;have hlen:=(hc (l[i]'(by omega)) (Aaq _)).2;have key:=fun e acc ex=>ih (i+1) e acc ex (by omega);have cast1:((i+1:Nat):Int)=(i:Int)+1:=by omega
  rw [cast1] at key;rw [IU,Aay,<- Aab];have By:kK (l[i]'(by omega))=cat (cat [32,32,100,111,32] (Vq (l[i]'(by omega)))) [59,10]:=rfl;rw [By];clear By hc;generalize (l.drop (i+1)).flatMap kK=rest at *;generalize l[i]'(by omega)=x at *;generalize Vq x=s at *;generalize l.map F9=xs at *;have cA:=Cp (a:=[32,32,100,111,32]) (b:=s) (by simp only [Aa0,Aa1];omega);have cB:=Cp (a:=cat [32,32,100,111,32] s) (b:=[59,10]) (by rw [AD];simp only [Aa0,Aa1];omega);have lw:(cat (cat [32,32,100,111,32] s) [59,10]).length<=141007:=by rw [AD,AD];simp only [Aa0,Aa1];omega
  have hp:=fun ex=>OM bs pg Xy b2 acc (cat (cat [32,32,100,111,32] s) [59,10]) ex (by omega) (W0 (by simp));have yb:(acc++cat (cat [32,32,100,111,32] s) [59,10]).length<=130160000+142000 * (i+1):=by rw [Aa2];omega
  generalize cat (cat [32,32,100,111,32] s) [59,10]=w at *;obtain ⟨xk,xkey,xnm,xex⟩:=x;obtain ⟨xd,xcl,xat⟩:=xkey;obtain ⟨zk,zn,zm,znm,zv,zkey,zkids⟩:=xex;unfold F9 Zz BE at hx Bc;generalize A8 zkids=zs at *;simp only [SA,Aaj,Aak] at hx Bc;rw [<- An];rw [<- An] at key;rw [<- AL] at Bc hp;simp only [Ab,Ac,Aaa,Aa3];simp only [S9,Ag,seval,Jp,WZ,Jq,GL,Nz,E9,Az,e0,e3,es,el,ei,hi,Gb,hx,Mt,Bc,hp,sy,cA,cB];refine key _ _ _ ?_ ?_ ?_ ?_ ?_ yb
  all_goals simp only [S7,Ag,seval,e0,e3,es,el,ei,E9]
theorem Gm {α:Type} (f:α->List UInt8) (c:Nat):∀ l:List α,(∀ x ∈ l,(f x).length<=c)->(l.flatMap f).length<=c * l.length
 | [],_=>by simp
 | x :: r,h=>by
  have h1:=h x Abe;have h2:=Gm f c r fun y hy=>h y (Aba _ hy);rw [Aay,Aa2,Aa0,Nat.mul_add];omega
theorem kU {t:Tg} (h:(Ta t).length<=1000):(kI t).length<=1007:=by
 unfold kI;rw [AD,AD];simp only [Aa0,Aa1];omega
theorem kV {s:Sp} (h:(Vq s).length<=141000):(kK s).length<=141007:=by
 unfold kK;rw [AD,AD];simp only [Aa0,Aa1];omega
theorem dy:A9 CC 24 [(0,.int .i64 1),(1,.int .i64 1)]=some (.agg [.int .i64 1,.int .i64 1,.str []]):=by kernel_rfl
theorem dz:A9 CC 29 [(0,.int .i64 1),(4,.agg [.int .i64 1,.int .i64 1,.str []])]=some (.agg [.int .i64 1,.int .i64 0,.int .i64 0,.str [],.int .i64 1,.int .i64 1,.str [],.int .i64 0,.str [],.str [],.nils]):=by kernel_rfl
theorem bq (r:Rl) (hp:Nu r=true) (ho:aT r) (h:Vo r=0) (bs:List PBox) (pg:Nat) (Xy:pg < bs.length) (acc0:List UInt8) (hac0:acc0.length<=130000000):∃ b2 ex,Ad CC 39 [E9 pg,Ew r] (bs.set pg (QB acc0))=some (.ret (.tup []),WB bs pg (acc0++Vr r) b2 ex):=by
 obtain ⟨g1,g2,g3,g4,g5,g6⟩:=Ss hp;obtain ⟨p1,p2,p3,p4,p5,p6⟩:=OK h;have ipr:Dx r.pr:=⟨by omega,by omega⟩;have hhd:=kO g1 ipr;obtain ⟨t1,t2,t3⟩:=Sx g4 ho.2.2.2.2.1 p5;have ok:=H9 r.ife t1 (by omega) 0;have lk:=t3 0;have odg:=EH r.pr ipr;have oys:=fun bx=>Jl r.ife 1 0 0 [] (1,1,[]) (0,[],[]) bx;have An:∀ t ∈ r.on,(∀ bx,Ai CC (Ad CC) 84 [BR t] bx=some (.ret (.str (Ta t)),bx))/\(Ta t).length<=1000:=fun t ht=>⟨kN t (g5 t ht) (p4 t ht),kP (g5 t ht) (p4 t ht)⟩;have uP:∀ s ∈ r.dos,(∀ bx,Ai CC (Ad CC) 86 [F9 s] bx=some (.ret (.str (Vq s)),bx))/\(Vq s).length<=141000:=fun s hs=>⟨gx s (g6 s hs) (ho.2.2.2.2.2.2 s hs).2.2.2 (p6 s hs),kQ (g6 s hs) (ho.2.2.2.2.2.2 s hs).2.2.2 (p6 s hs)⟩;have lon:=Gm kI 1007 r.on fun t ht=>kU (An t ht).2;have ldo:=Gm kK 141007 r.dos fun s hs=>kV (uP s hs).2;have pQ:kJ r.ife=cat (cat [32,32,105,102,32] (EN (an r.ife) 0)) [59,10]:=rfl
 have lif:(kJ r.ife).length<=140009:=by
  rw [pQ,AD,AD];simp only [Aa0,Aa1];omega
 have b8:aS r.ife 1 0 0 [] (1,1,[]) (0,[],[])=Sv r.ife:=rfl;rw [b8] at oys;unfold Vr;simp only [<- Aab];have hhe:uY r=cat (cat (cat (cat [114,117,108,101,32] r.nm) [32,112,114,105,111,114,105,116,121,32]) (Aas r.pr)) [32,123,10]:=rfl;have lit:=Dk ipr;clear h hp ho t1 t2 t3 p1 p2 p3 p4 p5 p6 g4 g5 g6 ipr b8;obtain ⟨nm,pr,on,ife,dos⟩:=r;simp only at *;have l1:(on.map BR).length=on.length:=Aa5 _;have l2:(dos.map F9).length=dos.length:=Aa5 _;have By:=fun b2 e acc ex=>kS _ rfl on (by omega) An bs pg Xy b2 on.length 0 e acc ex (by omega);have Zu:=fun b2 e acc ex=>kT _ rfl dos (by omega) uP bs pg Xy b2 dos.length 0 e acc ex (by omega);rw [Ab3] at By Zu;have c1:=Cp (a:=[114,117,108,101,32]) (b:=nm) (by simp only [Aa0,Aa1];omega);have c2:=Cp (a:=cat [114,117,108,101,32] nm) (b:=[32,112,114,105,111,114,105,116,121,32]) (by rw [AD];simp only [Aa0,Aa1];omega);have c3:=Cp (a:=cat (cat [114,117,108,101,32] nm) [32,112,114,105,111,114,105,116,121,32]) (b:=Aas pr) (by rw [AD,AD];simp only [Aa0,Aa1];omega);have c4:=Cp (a:=cat (cat (cat [114,117,108,101,32] nm) [32,112,114,105,111,114,105,116,121,32]) (Aas pr)) (b:=[32,123,10]) (by rw [AD,AD,AD];simp only [Aa0,Aa1];omega)
 have d1:=Cp (a:=[32,32,105,102,32]) (b:=EN (an ife) 0) (by simp only [Aa0,Aa1];omega);have d2:=Cp (a:=cat [32,32,105,102,32] (EN (an ife) 0)) (b:=[59,10]) (by rw [AD];simp only [Aa0,Aa1];omega);rw [<- hhe] at c4;rw [<- pQ] at d2;have Dz:uY ⟨nm,pr,on,ife,dos⟩≠[]:=by rw [hhe];exact W0 (by simp)
 have yF:kJ ife≠[]:=by rw [pQ];exact W0 (by simp)
 clear hhe pQ An uP;generalize uY ⟨nm,pr,on,ife,dos⟩=hd at *;generalize kJ ife=iff at *;generalize EN (an ife) 0=kd at *;generalize Sv ife=ys at *;generalize on.flatMap kI=ons at *;generalize dos.flatMap kK=dss at *;generalize Aas pr=dg at *;have q1:=fun b2 ex=>OM bs pg Xy b2 acc0 hd ex (by omega) Dz;have q2:=fun b2 ex=>OM bs pg Xy b2 (acc0++hd++ons) iff ex (by rw [Aa2,Aa2];omega) yF;have q3:=fun b2 ex=>OM bs pg Xy b2 (acc0++hd++ons++dss) [125,10] ex (by simp only [Aa2,Aa0,Aa1];omega) (by simp);have q4:=fun b2 ex=>OM bs pg Xy b2 (acc0++hd++ons++iff++dss) [125,10] ex (by simp only [Aa2,Aa0,Aa1];omega) (by simp);have a1:(acc0++hd).length<=130000300+1100 * 0:=by rw [Aa2];omega
 have a2:(acc0++hd++ons).length<=130160000+142000 * 0:=by rw [Aa2,Aa2];omega
 have a3:(acc0++hd++ons++iff).length<=130160000+142000 * 0:=by rw [Aa2,Aa2,Aa2];omega
 clear hac0 hhd lk lon ldo lif lit g1 g2 g3 Dz yF;unfold Ew Zz;obtain ⟨zk,zn,zm,znm,zv,zkey,zkids⟩:=ife;unfold BE at ok oys |-;unfold Yx at oys;generalize A8 zkids=zs at *;simp only [SA,Aaj,Aak] at ok oys |-;generalize on.map BR=xs at *;generalize dos.map F9=zz at *;rw [Ah (fn:=Aaa) (c:=Aaa.body.getD .skip) rfl rfl Qi rfl Sy (Aa9 rfl)];rw [<- An];rw [<- AL] at ok odg oys q1 q2 q3 q4;rw [<- An] at By Zu;simp only [Ab,Ac,Aaa,Aa3] at By Zu |-;simp only [S9,Ag,seval,Jp,WZ,Jq,GL,Nz,E9,Az,odg,c1,c2,c3,c4,wL,Aa4,q1,l1];generalize hE:Hp (Aaw _) _=z
 have hP:wM 0 bs pg (.cells 32 [.str nm,.int .i64 pr,.sl xs,.int .i64 zk,.int .i64 zn,.int .i64 zm,.str znm,.int .i64 zv.1,.int .i64 zv.2.1,.str zv.2.2,.int .i64 zkey.1,.str zkey.2.1,.str zkey.2.2,.sl zs,.sl zz]) (acc0++hd++ons) z:=by
  rw [<- hE];refine By _ _ _ _ ?_ ?_ ?_ ?_ ?_ a1
  all_goals first | (simp only [S7,Ag,seval,E9];done) | (simp only [S7,Ag,seval,E9] <;> rfl)
 obtain ⟨e',ex',rfl,k0,k3⟩:=hP;unfold E9 at k0;cases ys with
 | true=>
  rw [if_pos rfl,Aaf];simp only [S9,Ag,seval,Jp,WZ,Jq,GL,Nz,E9,Az,k0,k3,dy,dz,LG,oys,l2];generalize yj:Hp (Aaw _) _=z2
  have yk:wM 2 bs pg (.cells 32 [.str nm,.int .i64 pr,.sl xs,.int .i64 zk,.int .i64 zn,.int .i64 zm,.str znm,.int .i64 zv.1,.int .i64 zv.2.1,.str zv.2.2,.int .i64 zkey.1,.str zkey.2.1,.str zkey.2.2,.sl zs,.sl zz]) (acc0++hd++ons++dss) z2:=by
   rw [<- yj];refine Zu _ _ _ _ ?_ ?_ ?_ ?_ ?_ a2
   all_goals first | (simp only [S7,Ag,seval,E9,k0,k3];done) | (simp only [S7,Ag,seval,E9,k0,k3] <;> rfl)
  obtain ⟨e2,lO,rfl,m0,m3⟩:=yk;unfold E9 at m0;simp only [S9,Ag,seval,Jp,WZ,Jq,GL,Nz,E9,Az,m0,m3,q3];exact ⟨_,_,rfl⟩
 | false=>
  rw [if_neg (by simp)];simp only [S9,Ag,seval,Jp,WZ,Jq,GL,Nz,E9,Az,k0,k3,dy,dz,LG,oys,ok,d1,d2,q2,l2];generalize yj:Hp (Aaw _) _=z2
  have yk:wM 2 bs pg (.cells 32 [.str nm,.int .i64 pr,.sl xs,.int .i64 zk,.int .i64 zn,.int .i64 zm,.str znm,.int .i64 zv.1,.int .i64 zv.2.1,.str zv.2.2,.int .i64 zkey.1,.str zkey.2.1,.str zkey.2.2,.sl zs,.sl zz]) (acc0++hd++ons++iff++dss) z2:=by
   rw [<- yj];refine Zu _ _ _ _ ?_ ?_ ?_ ?_ ?_ a3
   all_goals first | (simp only [S7,Ag,seval,E9,k0,k3];done) | (simp only [S7,Ag,seval,E9,k0,k3] <;> rfl)
  obtain ⟨e2,lO,rfl,m0,m3⟩:=yk;unfold E9 at m0;simp only [S9,Ag,seval,Jp,WZ,Jq,GL,Nz,E9,Az,m0,m3,q4];exact ⟨_,_,rfl⟩
theorem ZPg:zeroCells CC 72=some [.nils]:=by kernel_rfl
theorem dB:QB []=.cells 72 [.nils]:=rfl
theorem sC {l:List UInt8} (h:l≠[]):QB l=.cells 72 [.osl 5 (GQ l)]:=by
 unfold QB Dy;rw [if_neg h]
theorem gy (r:Rl):Al (Ew r).cells=true:=by
 have h:=KX r;unfold Ew at h |-;unfold PV.pure at h;exact h
theorem Vv (n:Nat) (l:List UInt8):(QB l).under n=true:=by
 unfold QB Dy;by_cases h:l=[]
 · rw [if_pos h]
   rfl
 · rw [if_neg h]
   show Ar _ [.osl 5 (GQ l)]=true;simpa [Ar,PV.under] using L5 _ l
theorem kW (r:Rl) (hp:Nu r=true) (ho:aT r) (h:Vo r=0) (bs:List PBox) (pg:Nat) (Xy:pg < bs.length) (hc:DN bs) (acc:List UInt8) (hl:acc.length<=130000000):Ai CC (Ad CC) 39 [E9 pg,Ew r] (bs.set pg (QB acc))=some (.ret (.tup []),bs.set pg (QB (acc++Vr r))):=by
 obtain ⟨b2,ex,hw⟩:=bq r hp ho h bs pg Xy acc hl;unfold Ai;rw [if_pos (by rw [AO] <;> rfl),hw];simp only;unfold Es WB
 have ht:(bs.set pg (QB (acc++Vr r))++b2 :: ex).take (bs.set pg (QB acc)).length=bs.set pg (QB (acc++Vr r)):=by
  rw [Aa4,List.take_append_of_le_length (by rw [Aa4];exact Aao _),List.take_of_length_le (by rw [Aa4];exact Aao _)]
 rw [ht,if_pos];rw [Ab1,Aa4];refine ⟨rfl,?_⟩;have:=Kr (id:=pg) (P:=QB (acc++Vr r)) (ys:=[]) hc (Vv _ _) rfl;unfold DN BX at this;rw [Aaf,Aa4] at this;exact this
theorem Y0:Be CC Abk (Abk.body.getD .skip)=true:=by kernel_rfl
theorem W1:CC.P.funcs[26]?=some Abk:=by kernel_rfl
theorem bu:Be CC Abj (Abj.body.getD .skip)=true:=by kernel_rfl
theorem Y1:CC.P.funcs[55]?=some Abj:=by kernel_rfl
theorem Sz:Be CC Aa6 (Aa6.body.getD .skip)=true:=by kernel_rfl
theorem Qj:CC.P.funcs[19]?=some Aa6:=by kernel_rfl
theorem oF {r:Rl} (hp:Nu r=true) (ho:aT r) (h:Vo r=0):(Vr r).length<=3000000:=by
 obtain ⟨g1,g2,g3,g4,g5,g6⟩:=Ss hp;obtain ⟨p1,p2,p3,p4,p5,p6⟩:=OK h;have hhd:=kO g1 (r:=r) ⟨by omega,by omega⟩;have t3:=(Sx g4 ho.2.2.2.2.1 p5).2.2 0;have lon:=Gm kI 1007 r.on fun t ht=>kU (kP (g5 t ht) (p4 t ht));have ldo:=Gm kK 141007 r.dos fun s hs=>kV (kQ (g6 s hs) (ho.2.2.2.2.2.2 s hs).2.2.2 (p6 s hs))
 have lif:(if Sv r.ife=true then [] else kJ r.ife).length<=140009:=by
  split
  · simp
  · unfold kJ
    rw [AD,AD];simp only [Aa0,Aa1];omega
 unfold Vr;simp only [Aa2,Aa0,Aa1];omega
theorem ZRl:zeroCells CC 32=some [.str [],.int .i64 0,.nils,.int .i64 0,.int .i64 0,.int .i64 0,.str [],.int .i64 0,.int .i64 0,.str [],.int .i64 0,.str [],.str [],.nils,.nils]:=by kernel_rfl
def W2 (l:List Rl) (nm:List UInt8):Bool:=l.any fun b=>b.nm == nm
def Vw:List Rl->List Rl->List UInt8->Int×List UInt8
 | _,[],acc=>(0,acc)
 | pre,r :: rest,acc=>if Vo r=0 then (if W2 pre r.nm=true then (9,[]) else Vw (pre++[r]) rest (acc++Vr r)) else (Vo r,[])
def Qk (l:List Rl):Int×List UInt8:=if 40 < l.length then (3,[]) else if (Vw [] l []).1=0 then (if (BD (Vw [] l []).2).2.2=0 then (0,(Vw [] l []).2) else (3,[])) else ((Vw [] l []).1,[])
theorem Y2 {α:Type} (ys:List α) (x y:α):(ys++[x]).set ys.length y=ys++[y]:=by
 rw [Aau _ _ (Aao _),Aaz];rfl
theorem dC {α:Type} {ys:List α} {J:Nat} {b:α} (h:ys[J]?=some b) (z:List α):(ys++z)[J]?=some b:=by
 rw [Ab4 (List.getElem?_eq_some_iff.1 h).1,h]
def oG (b:Bool) (e:List PV) (P:PBox) (ys:List PBox) (z:Option (Ex×St)):Prop:=match b with
 | true=>∃ e' ys',z=some (.ret,⟨e',P :: ys'⟩)/\getT e' 2=.str []/\getT e' 3=.int .i64 9
 | false=>∃ e' ys',z=some (.exit 2,⟨e',P :: (ys++ys')⟩)/\(∀ n,(ys'.all fun y=>y.under n)=true)/\getT e' 0=getT e 0/\getT e' 4=getT e 4/\getT e' 5=getT e 5/\getT e' 7=getT e 7/\getT e' 19=getT e 19/\getT e' 20=getT e 20/\getT e' 21=getT e 21
theorem gz {b:Bool} {e E:List PV} {P:PBox} {ys:List PBox} {x:PBox} {z:Option (Ex×St)} (hx:∀ n,x.under n=true) (k0:getT E 0=getT e 0) ( k4:getT E 4=getT e 4) ( k5:getT E 5=getT e 5) ( k7:getT E 7=getT e 7) ( k19:getT E 19=getT e 19) ( k20:getT E 20=getT e 20) ( k21:getT E 21=getT e 21) (h:oG b E P (ys++[x]) z):oG b e P ys z:=by
 cases b with
 | true=>exact h
 | false=>
  obtain ⟨e',ys',h1,h2,g0,g4,g5,g7,g19,g20,g21⟩:=h;refine ⟨e',x :: ys',?_,fun n=>by rw [Ab6,hx,h2];rfl,g0.trans k0,g4.trans k4,g5.trans k5,g7.trans k7,g19.trans k19,g20.trans k20,g21.trans k21⟩;rw [h1,Aab];rfl
theorem Vx (r:Rl) (n:Nat):(PBox.cells 32 (Ew r).cells).under n=true:=Cv n _ (gy r)
theorem sD (L:Code) (hL:L=Ab Aa6 [1,1,1,1,0,1,0,0,1,1,0,0,1,1,0,1,0]) (pre:List Rl) (hl:pre.length<=50) (nm:List UInt8) (rc:List PV) (J:Nat) (P:PBox):∀ (k i:Nat) (e:List PV) (ys:List PBox),i+k=pre.length ->
 ys[J]?=some (.cells 32 (.str nm :: rc))->getT e 7=.bp (J+1) 0->getT e 33=.sl (pre.map Ew)->getT e 34=.int .i64 pre.length->getT e 35=.int .i64 i ->
 oG (W2 (pre.drop i) nm) e P ys (Co CC L ⟨e,P :: ys⟩):=by
 intro k
 induction k with
 | zero=>
  intro i e ys D3 hJ e7 es el ei;rw [A3 (Ab Aa6 [1,1,1,1,0,1,0,0,1,1,0,0,1,1,0,1,0,0]) hL];have hi:¬ ((i:Int) < (pre.length:Int)):=by omega
  rw [Aat (by omega)];generalize pre.map Ew=xs at *;rw [<- An];simp only [Ab,Ac,Aa6,Aa3];simp only [S9,Ag,seval,Az,es,el,ei,hi];exact ⟨_,[],by rw [Aaf],fun n=>rfl,by simp only [S7,Ag,seval],by simp only [S7,Ag,seval],by simp only [S7,Ag,seval],by simp only [S7,Ag,seval],by simp only [S7,Ag,seval],by simp only [S7,Ag,seval],by simp only [S7,Ag,seval]⟩
 | succ k ih=>
  intro i e ys D3 hJ e7 es el ei;rw [A3 (Ab Aa6 [1,1,1,1,0,1,0,0,1,1,0,0,1,1,0,1,0,0]) hL];have hi:((i:Int) < (pre.length:Int)):=by omega
  have Gb:¬ ((i:Int) < 0):=by omega
  have IU:pre.drop i=(pre[i]'(by omega)) :: pre.drop (i+1):=Aam (by omega);have hx:(pre.map Ew)[i]?=some (Ew (pre[i]'(by omega))):=by rw [Aan,Aap (by omega)];rfl
  have Mt:=wrap_i64 (n:=(i:Int)+1) ⟨by omega,by omega⟩;have vm:=Vx (pre[i]'(by omega));have key:=fun e ys=>ih (i+1) e ys (by omega);have cast1:((i+1:Nat):Int)=(i:Int)+1:=by omega
  rw [cast1] at key;rw [IU];have vd:W2 ((pre[i]'(by omega)) :: pre.drop (i+1)) nm=((pre[i]'(by omega)).nm == nm || W2 (pre.drop (i+1)) nm):=rfl;rw [vd];clear vd;generalize W2 (pre.drop (i+1)) nm=rest at *;generalize pre[i]'(by omega)=x at *;generalize pre.map Ew=ps at *;have hz:=ZRl;have hs:=fun a b=>Y2 ys a b;have hg:=fun a=>Aa7 (l:=ys) (a:=a);have yh:=dC hJ;have Ez:EB .eql x.nm nm=some (.bool (x.nm == nm)):=rfl;obtain ⟨xnm,xpr,xon,⟨xk,xn,xm,xsn,xv,xkey,xkids⟩,xdos⟩:=x;unfold Ew Zz at hx vm;simp only at Ez |-;unfold BE at hx vm;simp only [SA,Aaj,Aak] at hx vm;generalize A8 xkids=zs at *;generalize xon.map BR=us at *;generalize xdos.map F9=vs at *;have rh:Al zs=true->True:=fun _=>trivial;cases hn:xnm == nm with
  | true=>
   rw [hn] at Ez;rw [<- An];simp only [Ab,Ac,Aa6,Aa3];simp only [S9,Ag,seval,Az,es,el,ei,e7,hi,Gb,hx,Ez,hz,hs,hg,yh,Aa2,Aa8,Bool.true_or];exact ⟨_,_,rfl,by simp only [S7,Ag,seval],by simp only [S7,Ag,seval]⟩
  | false=>
   rw [hn] at Ez;rw [<- An];rw [<- An] at key;simp only [Ab,Ac,Aa6,Aa3];simp only [S9,Ag,seval,Az,es,el,ei,e7,hi,Gb,hx,Mt,Ez,hz,hs,hg,yh,Aa2,Aa8,Bool.false_or];refine gz vm ?_ ?_ ?_ ?_ ?_ ?_ ?_ (key _ _ (yh _) ?_ ?_ ?_ ?_)
   all_goals simp only [S7,Ag,seval,e7,es,el,ei]
theorem gA (xs:List PV) (n:Nat) (h:n<=xs.length):FV CC 41 (.sl xs) none (some (.int .i64 (n:Int)))=some (.sl (xs.take n)):=by
 have hb:D8 xs.length xs.length (some (.int .i64 (n:Int)))=some n:=by
  unfold D8 LU;simp only;rw [if_pos ⟨by omega,by omega⟩];simp
 unfold FV;rw [show CC.P.underlying 41=some (.slice 32) from by kernel_rfl];simp only [CJ,show tSize CC 32=some 15 from by kernel_rfl,hb,show D8 n 0 none=some 0 from rfl,true_or,if_true,Ab3]
def wN (r:Int×List UInt8) (z:Option (Ex×St)):Prop:=if r.1=0 then ∃ e' ys',z=some (.exit 0,⟨e',QB r.2 :: ys'⟩)/\getT e' 4=.bp 0 0 else ∃ e' b',z=some (.ret,⟨e',b'⟩)/\getT e' 2=.str []/\getT e' 3=.int .i64 r.1
theorem dD {c:Int} {s:List UInt8} {z:Option (Ex×St)} (hc:c≠0) (h:∃ e' b',z=some (.ret,⟨e',b'⟩)/\getT e' 2=.str []/\getT e' 3=.int .i64 c):wN (c,s) z:=by
 unfold wN;rw [if_neg hc];exact h
theorem sE (acc:List UInt8) (ys:List PBox) (h:∀ n,(ys.all fun y=>y.under n)=true):DN (QB acc :: ys):=by
 unfold DN;rw [Ab6,Vv,h];rfl
theorem wO (L:Code) (hL:L=Ab Aa6 [1,1,1,1,0,1,0]) (l:List Rl) (hl:l.length<=40) (EA:∀ r ∈ l,Nu r=true/\aT r):∀ (rest pre:List Rl) (e:List PV) (acc:List UInt8) (ys:List PBox),l=pre++rest ->
 getT e 0=.sl (l.map Ew)->getT e 4=.bp 0 0->getT e 5=E9 0->getT e 19=.sl (l.map Ew)->getT e 20=.int .i64 l.length->getT e 21=.int .i64 pre.length->(∀ n,(ys.all fun y=>y.under n)=true)->acc.length<=3000000 * pre.length ->
 wN (Vw pre rest acc) (Co CC L ⟨e,QB acc :: ys⟩):=by
 intro rest
 induction rest with
 | nil=>
  intro pre e acc ys Qo e0 e4 e5 es el ei b8 uP;rw [A3 (Ab Aa6 [1,1,1,1,0,1,0,0]) hL];rw [Aaf] at Qo;have hi:¬ ((pre.length:Int) < (l.length:Int)):=by rw [Qo];omega
  unfold Vw;generalize l.map Ew=xs at *;rw [<- An];simp only [Ab,Ac,Aa6,Aa3];simp only [S9,Ag,seval,Az,es,el,ei,hi];exact ⟨_,_,rfl,by simp only [S7,Ag,seval,e4]⟩
 | cons r rest ih=>
  intro pre e acc ys Qo e0 e4 e5 es el ei b8 uP;rw [A3 (Ab Aa6 [1,1,1,1,0,1,0,0]) hL];have ee:l.length=pre.length+(rest.length+1):=by rw [Qo,Aa2,Aa0]
  have hi:((pre.length:Int) < (l.length:Int)):=by omega
  have Gb:¬ ((pre.length:Int) < 0):=by omega
  have hx:(l.map Ew)[pre.length]?=some (Ew r):=by rw [Qo,Abh,Aal (by rw [Aa5];exact Aao _),Aa5,Aaz];rfl
  have Mr:=gA (l.map Ew) pre.length (by rw [Aa5];omega);have QL:(l.map Ew).take pre.length=pre.map Ew:=by rw [Qo,Abh,List.take_left' (by rw [Aa5])]
  rw [QL] at Mr;clear QL;have Mt:=wrap_i64 (n:=(pre.length:Int)+1) ⟨by omega,by omega⟩;obtain ⟨hp,ho⟩:=EA r (by rw [Qo];simp);have och:=OJ r hp;have ca:=fun e ys rc J=>sD _ rfl pre (by omega) r.nm rc J (QB acc) pre.length 0 e ys (Ab8 _);rw [Ab3] at ca;have key:=fun e ys (hr0:Vo r=0)=>ih (pre++[r]) e (acc++Vr r) ys (by rw [Qo,Aab] <;> rfl);have cast1:(((pre++[r]).length:Nat):Int)=(pre.length:Int)+1:=by rw [Aa2];rfl
  rw [cast1] at key
  have mI:Vo r=0->(acc++Vr r).length<=3000000 * (pre++[r]).length:=fun h0=>by
   have:=oF hp ho h0;rw [Aa2,Aa2,Ab9];omega
  have ey:=fun (h0:Vo r=0) (bs:List PBox) (hb:∀ n,(bs.all fun y=>y.under n)=true)=>kW r hp ho h0 (QB acc :: bs) 0 (Nat.succ_pos _) (sE acc bs hb) acc (by omega);simp only [Aax] at ey;have Zt:=Vx r;have hlenp:((pre.map Ew).length:Int)=(pre.length:Int):=by rw [Aa5]
  rw [Vw];have hz:=ZRl;have hs:=fun a b=>Y2 ys a b;have hg:=fun a=>Aa7 (l:=ys) (a:=a);clear Qo EA ih ee;generalize Vw (pre++[r]) rest (acc++Vr r)=res at *;generalize hdd:W2 pre r.nm=dd at *;generalize Vo r=er at *;generalize Vr r=rs at *;generalize hPP:pre++[r]=pre2 at *;generalize l.map Ew=ls at *;generalize ek:pre.map Ew=ps at *;generalize J7:pre.length=pn at *;generalize l.length=ln at *;clear hdd ek J7 hPP;unfold E9 at e5 ey key;obtain ⟨nm,pr,on,⟨zk,zn,zm,znm,zv,zkey,zkids⟩,dos⟩:=r;unfold Ew Zz BE at hx och ey Zt;simp only [SA,Aaj,Aak,PV.cells] at hx och ey Zt ca |-;have uQ:=AY zkids;have xZ:=Sl on;have mH:=Sm dos;generalize A8 zkids=zs at *;generalize on.map BR=xs at *;generalize dos.map F9=zz at *;have hcons:∀ (a:PBox) (b c:List PBox),a :: b++c=a :: (b++c):=fun _ _ _=>rfl;by_cases h0:er=0
  case neg=>
   rw [if_neg h0];refine dD h0 ?_;have p:(er != 0)=true:=by simpa using h0
   clear ca key ey;rw [<- An];rw [<- AL] at och;simp only [Ab,Ac,Aa6,Aa3];simp only [S9,Ag,seval,Az,e0,e4,e5,es,el,ei,hi,Gb,hx,och,p,hz,hs,hg,xZ,mH,uQ,Aa8];exact ⟨_,_,rfl,by simp only [S7,Ag,seval],by simp only [S7,Ag,seval]⟩
  subst h0;rw [if_pos rfl];have hQ:=fun e=>ca e (ys++[.cells 32 [.str nm,.int .i64 pr,.sl xs,.int .i64 zk,.int .i64 zn,.int .i64 zm,.str znm,.int .i64 zv.1,.int .i64 zv.2.1,.str zv.2.2,.int .i64 zkey.1,.str zkey.2.1,.str zkey.2.2,.sl zs,.sl zz]]) [.int .i64 pr,.sl xs,.int .i64 zk,.int .i64 zn,.int .i64 zm,.str znm,.int .i64 zv.1,.int .i64 zv.2.1,.str zv.2.2,.int .i64 zkey.1,.str zkey.2.1,.str zkey.2.2,.sl zs,.sl zz] ys.length (Aa7 ..);clear ca;have key:=fun e ys=>key e ys rfl;have ey:=ey rfl;have mI:=mI rfl;simp only [Ab,Ac,Aa6,Aa3] at hQ |-;rw [<- An];rw [<- An] at hQ key;rw [<- AL] at och ey;simp only [S9,Ag,seval,Az,e0,e4,e5,es,el,ei,hi,Gb,hx,och,hz,hs,hg,xZ,mH,uQ,Mr,hlenp,Aa8];generalize hE:Hp (Aaw _) _=z
  have hP:∃ E,oG dd E (QB acc) (ys++[.cells 32 [.str nm,.int .i64 pr,.sl xs,.int .i64 zk,.int .i64 zn,.int .i64 zm,.str znm,.int .i64 zv.1,.int .i64 zv.2.1,.str zv.2.2,.int .i64 zkey.1,.str zkey.2.1,.str zkey.2.2,.sl zs,.sl zz]]) z/\getT E 0=.sl ls/\getT E 4=.bp 0 0/\getT E 5=.fn 40 [.bp 0 0] []/\getT E 7=.bp (ys.length+1) 0/\getT E 19=.sl ls/\getT E 20=.int .i64 (ln:Int)/\getT E 21=.int .i64 (pn:Int):=by
   rw [<- hE];refine ⟨_,hQ _ ?_ ?_ ?_ ?_,?_,?_,?_,?_,?_,?_,?_⟩
   all_goals first | (simp only [S7,Ag,seval,e0,e4,e5,es,el,ei];done) | (simp only [S7,Ag,seval,e0,e4,e5,es,el,ei] <;> rfl)
  obtain ⟨E,hP,E0,E4,E5,E7,E19,E20,E21⟩:=hP;clear hE hQ;cases dd with
  | true=>
   obtain ⟨e',ys',rfl,g2,g3⟩:=hP;simp only [if_true];refine dD (by decide) ?_;simp only [S9,Ag,seval,Az,g2];exact ⟨_,_,rfl,g2,g3⟩
  | false=>
   obtain ⟨e',ys',rfl,hu,k0,k4,k5,k7,k19,k20,k21⟩:=hP;simp only [Bool.false_eq_true,if_false]
   have rb:∀ n,((ys++[PBox.cells 32 [.str nm,.int .i64 pr,.sl xs,.int .i64 zk,.int .i64 zn,.int .i64 zm,.str znm,.int .i64 zv.1,.int .i64 zv.2.1,.str zv.2.2,.int .i64 zkey.1,.str zkey.2.1,.str zkey.2.2,.sl zs,.sl zz]]++ys').all fun y=>y.under n)=true:=fun n=>by
    rw [Abi,Abi,b8,hu,Ab6,Zt];rfl
   have ey:=ey _ rb;have hgt:(ys++[PBox.cells 32 [.str nm,.int .i64 pr,.sl xs,.int .i64 zk,.int .i64 zn,.int .i64 zm,.str znm,.int .i64 zv.1,.int .i64 zv.2.1,.str zv.2.2,.int .i64 zkey.1,.str zkey.2.1,.str zkey.2.2,.sl zs,.sl zz]]++ys')[ys.length]?=some (.cells 32 [.str nm,.int .i64 pr,.sl xs,.int .i64 zk,.int .i64 zn,.int .i64 zm,.str znm,.int .i64 zv.1,.int .i64 zv.2.1,.str zv.2.2,.int .i64 zkey.1,.str zkey.2.1,.str zkey.2.2,.sl zs,.sl zz]):=dC (Aa7 ..) ys';generalize ys++[PBox.cells 32 [.str nm,.int .i64 pr,.sl xs,.int .i64 zk,.int .i64 zn,.int .i64 zm,.str znm,.int .i64 zv.1,.int .i64 zv.2.1,.str zv.2.2,.int .i64 zkey.1,.str zkey.2.1,.str zkey.2.2,.sl zs,.sl zz]]++ys'=Y at *;rw [E0] at k0;rw [E4] at k4;rw [E5] at k5;rw [E7] at k7;rw [E19] at k19;rw [E20] at k20;rw [E21] at k21;simp only [S9,Ag,seval,Az,k0,k4,k5,k7,k19,k20,k21,hgt,ey,xZ,mH,uQ,Mt];refine key _ _ ?_ ?_ ?_ ?_ ?_ ?_ rb mI
   all_goals simp only [S7,Ag,seval,k0,k4,k5,k19,k20,k21]
theorem SI (s:List UInt8) (hs:20000 < s.length):∃ bx,Ad CC 21 [.str s] []=some (.ret (.tup [.sl [],.int .i64 0,.int .i64 3]),bx):=by
 have hlen:=Bk s;have c1':(s.length:Int) > 20000:=by omega
 rw [Ir rfl];rw [<- An];simp only [Ab,Ac,Tryz.f21,Aa3];simp only [S8,Ag,seval,hlen,c1'];exact ⟨_,rfl⟩
theorem gB:Gh CC 70 9 .nils=some (.str []):=by kernel_rfl
theorem kX:Gh CC 70 9 (.sl [])=some (.str []):=by kernel_rfl
theorem Y3 (s:List UInt8):∃ a b,∀ bx,Ai CC (Ad CC) 21 [.str s] bx=some (.ret (.tup [.sl a,.int .i64 b,.int .i64 (BD s).2.2]),bx):=by
 by_cases h:20000 < s.length
 · obtain ⟨b0,hc⟩:=SI s h
   refine ⟨[],0,fun bx=>?_⟩;rw [show (BD s).2.2=3 from by unfold BD;rw [if_pos h]];exact Aq rfl (by simp only [SA,Abm]) hc rfl
 · exact ⟨_,_,fun bx=>HX s (by omega) bx⟩
theorem ON (l:List Rl) (hl:l.length<=40) (EA:∀ r ∈ l,Nu r=true/\aT r):∃ bx,Ad CC 19 [.sl (l.map Ew)] []=some (.ret (.tup [.str (Qk l).2,.int .i64 (Qk l).1]),bx):=by
 have Xw:=fun e ys=>wO _ rfl l hl EA l [] e [] ys rfl;have VH:¬ ((l.length:Int) > 40):=by omega
 have hlen:(((l.map Ew).length:Nat):Int)=(l.length:Int):=by rw [Aa5]
 have zp:=ZPg;have Ms:QB []=.cells 72 [.nils]:=dB;obtain ⟨ta,tb,QL⟩:=Y3 (Vw [] l []).2;unfold Qk;rw [if_neg (by omega)];generalize Vw [] l []=res at *;clear EA hl;generalize l.map Ew=ls at *;generalize l.length=ln at *;unfold E9 at Xw;rw [Ah (fn:=Aa6) (c:=Aa6.body.getD .skip) rfl rfl Qj rfl Sz (Aa9 rfl)];simp only [Ab,Ac,Aa6,Aa3] at Xw |-;rw [<- An];rw [<- An] at Xw;rw [<- AL] at QL;simp only [S9,Ag,seval,Az,VH,hlen,zp];generalize hE:Hp (Aaw _) _=z
 have hP:wN res z:=by
  rw [<- hE,<- Ms];refine Xw _ [] ?_ ?_ ?_ ?_ ?_ ?_ (fun n=>rfl) (Abo _)
  all_goals first | (simp only [S7,Ag,seval];done) | (simp only [S7,Ag,seval] <;> rfl)
 clear hE Xw;unfold wN at hP;by_cases hr:res.1=0
 case neg=>
  rw [if_neg hr] at hP |-;obtain ⟨e',b',rfl,g2,g3⟩:=hP;simp only [S9,Ag,seval,Az,g2,g3];exact ⟨_,rfl⟩
 rw [if_pos hr] at hP |-;obtain ⟨e',ys',rfl,g4⟩:=hP;have ZH:=kg res.2;by_cases he:res.2=[]
 · rw [he] at QL |-
   rw [dB];have c1:=gB;have c2:=kX;by_cases hk:(BD []).2.2=0
   · rw [if_pos hk]
     rw [hk] at QL;simp only [S9,Ag,seval,Az,g4,c1,c2,QL];exact ⟨_,rfl⟩
   · rw [if_neg hk]
     have p:((BD []).2.2 != 0)=true:=bne_iff_ne.2 hk;generalize (BD []).2.2=er at *;simp only [S9,Ag,seval,Az,g4,c1,c2,QL,p];exact ⟨_,rfl⟩
 · rw [sC he]
   generalize GQ res.2=bs at *;by_cases hk:(BD res.2).2.2=0
   · rw [if_pos hk]
     rw [hk] at QL;simp only [S9,Ag,seval,Az,g4,ZH,QL];exact ⟨_,rfl⟩
   · rw [if_neg hk]
     have p:((BD res.2).2.2 != 0)=true:=bne_iff_ne.2 hk;generalize (BD res.2).2.2=er at *;simp only [S9,Ag,seval,Az,g4,ZH,QL,p];exact ⟨_,rfl⟩
theorem NA:∀ l:List Rl,(PV.sl (l.map Ew)).pure=true
 | []=>rfl
 | x :: r=>by
  show Al (Ew x :: r.map Ew)=true;rw [AO,KX];exact NA r
theorem SJ (l:List Rl) (hl:l.length<=40) (EA:∀ r ∈ l,Nu r=true/\aT r) (bx):Ai CC (Ad CC) 19 [.sl (l.map Ew)] bx=some (.ret (.tup [.str (Qk l).2,.int .i64 (Qk l).1]),bx):=by
 obtain ⟨b,hc⟩:=ON l hl EA;refine Aq rfl ?_ hc rfl;rw [AO,Bu,Abm];exact NA l
theorem Lw:Be CC Aae (Aae.body.getD .skip)=true:=by kernel_rfl
theorem KY:CC.P.funcs[112]?=some Aae:=by kernel_rfl
theorem OO:Be CC Abl (Abl.body.getD .skip)=true:=by kernel_rfl
theorem NC:CC.P.funcs[25]?=some Abl:=by kernel_rfl
def OP (x:Option Bool) (y:Option Bool):Option Bool:=match x with
 | some true=>y
 | o=>o
theorem sG (y:Option Bool):OP (some true) y=y:=rfl
theorem KZ:CC.P.eqGuardType CC.P.depth 58=false:=by kernel_rfl
theorem wP (k d1 d2 n m k' d1' d2' n' m':Int) (a1 b1 a2 b2 s a1' b1' a2' b2' s':List UInt8):Mu CC 100 58 (.agg [.int .i64 k,.int .i64 d1,.str a1,.str b1,.int .i64 d2,.str a2,.str b2,.str s,.int .i64 n,.int .i64 m]) (.agg [.int .i64 k',.int .i64 d1',.str a1',.str b1',.int .i64 d2',.str a2',.str b2',.str s',.int .i64 n',.int .i64 m'])
 = OP (some (k == k')) (OP (OP (some (d1 == d1')) (OP (some (a1 == a1')) (OP (some (b1 == b1')) (some true)))) (OP (OP (some (d2 == d2')) (OP (some (a2 == a2')) (OP (some (b2 == b2')) (some true)))) (OP (some (s == s')) (OP (some (n == n')) (OP (some (m == m')) (some true)))))):=by kernel_rfl
theorem kY (t:Tg):Mu CC 100 58 (BR t) (BR t)=some true:=by
 unfold BR;rw [wP];simp only [beq_self_eq_true,sG]
theorem kZ (L:Code) (hL:L=Ab Aae [1,1,0,1,0]) (l:List Tg) (hl:l.length<=100):∀ (k i:Nat) (e:List PV) (bx:List PBox),i+k=l.length->getT e 0=.sl (l.map BR)->getT e 1=.sl (l.map BR)->getT e 12=.int .i64 l.length->getT e 13=.int .i64 i->∃ e' bx',Co CC L ⟨e,bx⟩=some (.exit 0,⟨e',bx'⟩):=by
 intro k
 induction k with
 | zero=>
  intro i e bx D3 e0 e1 el ei;rw [A3 (Ab Aae [1,1,0,1,0,0]) hL];have hi:¬ ((i:Int) < (l.length:Int)):=by omega
  generalize l.map BR=xs at *;rw [<- An];simp only [Ab,Ac,Aae,Aa3];simp only [S9,Ag,seval,CX,Az,Gj,Cu,KZ,Ab7,e0,e1,el,ei,hi];exact ⟨_,_,rfl⟩
 | succ k ih=>
  intro i e bx D3 e0 e1 el ei;rw [A3 (Ab Aae [1,1,0,1,0,0]) hL];have hi:((i:Int) < (l.length:Int)):=by omega
  have Gb:¬ ((i:Int) < 0):=by omega
  have hx:l[i]?=some (l[i]'(by omega)):=by simp
  have Hw:(l.map BR)[i]?=some (BR (l[i]'(by omega))):=by rw [Aan,hx];rfl
  have heq:=kY (l[i]'(by omega));generalize l[i]'(by omega)=x at *;have Mt:=wrap_i64 (n:=(i:Int)+1) ⟨by omega,by omega⟩;have key:=fun e bx=>ih (i+1) e bx (by omega);have cast1:((i+1:Nat):Int)=(i:Int)+1:=by omega
  rw [cast1] at key;generalize l.map BR=xs at *;unfold BR at Hw heq;rw [<- An];rw [<- An] at key;simp only [Ab,Ac,Aae,Aa3];simp only [S9,Ag,seval,CX,Az,Gj,Cu,KZ,Ab7,e0,e1,el,ei,hi,Gb,Hw,Mt,heq];refine key _ _ ?_ ?_ ?_ ?_
  all_goals simp only [S7,Ag,seval,e0,e1,el,ei]
theorem ld (l:List Tg) (hl:l.length<=100):∃ bx,Ad CC 112 [.sl (l.map BR),.sl (l.map BR)] []=some (.ret (.bool true),bx):=by
 have Af:=fun L hL e bx=>kZ L hL l hl l.length 0 e bx (by omega);have Lz:(l.map BR).length=l.length:=Aa5 ..;rw [<- Lz] at Af;generalize l.map BR=xs at *;have h7:((xs.length:Int) != (xs.length:Int))=false:=by simp
 rw [Ah (fn:=Aae) (c:=Aae.body.getD .skip) rfl rfl KY rfl Lw (Aa9 rfl)];rw [<- An];rw [<- An] at Af;simp only [Ab,Ac,Aae,Aa3];simp only [S9,Ag,seval,CX,Az,Gj,Cu,KZ,Ab7,h7];generalize hE:Hp (Aaw _) _=z
 have hP:∃ e' bx',z=some (.exit 0,⟨e',bx'⟩):=by
  rw [<- hE];refine Af _ rfl _ _ ?_ ?_ ?_ ?_
  all_goals first | (simp only [S7,Ag,seval];done) | (simp only [S7,Ag,seval] <;> rfl)
 obtain ⟨e',bx',he⟩:=hP;subst he;simp only [S8,Ag,seval];exact ⟨_,rfl⟩
theorem sH (l:List Tg) (hl:l.length<=100) (bx):Ai CC (Ad CC) 112 [.sl (l.map BR),.sl (l.map BR)] bx=some (.ret (.bool true),bx):=by
 obtain ⟨q,hq⟩:=ld l hl;have hp:Al (l.map BR)=true:=map_pure BR KW l;exact Aq rfl (by simp only [AO,PV.pure,hp,Bu,Abn]) hq rfl
open Go
theorem Vy:∀ (l m:List Nat),l.Nodup->(∀ x ∈ l,x ∈ m)->l.length<=m.length
 | [],_,_,_=>Abo _
 | x :: l,m,hn,hs=>by
  rw [Ab2] at hn;have hx:=hs x (Abe ..);have h:=Vy l (m.erase x) hn.2 (fun y hy=>(List.mem_erase_of_ne (fun e:y=x=>hn.1 (by rw [<- e];exact hy))).2 (hs y (Aba _ hy)));rw [List.length_erase_of_mem hx] at h;have:=List.length_pos_of_mem hx;rw [Aa0];omega
theorem SK (ops:Array Oper):∀ (k:Nat) (acc l:List Nat),acc.Nodup->(∀ x ∈ acc,x < ops.size)->l ∈ Df ops k acc->l.Nodup/\(∀ x ∈ l,x < ops.size)/\l.length=acc.length+k
 | 0,acc,l,h1,h2,h=>by
  simp only [Df,Abd] at h;subst h;exact ⟨by unfold List.Nodup at h1 |-;rw [List.pairwise_reverse];exact h1.imp (fun h=>Ne.symm h),fun x hx=>h2 x (Ab0.1 hx),List.length_reverse ..⟩
 | k+1,acc,l,h1,h2,h=>by
  unfold Df at h;rw [Abf] at h;obtain ⟨i,hi,h⟩:=h;split at h
  · rename_i hr
    have eB:=hr;unfold Ka at eB;rw [Ab1] at eB
    have hn:i ∉ acc:=fun hm=>by
     have:=Aai.2 hm;rw [this] at eB;cases eB.1
    obtain ⟨g1,g2,g3⟩:=SK ops k (i :: acc) l (Ab2.2 ⟨hn,h1⟩) (fun x hx=>by
     rcases Ab5.1 hx with rfl | hx
     · exact Aad.1 hi
     · exact h2 x hx) h
    exact ⟨g1,g2,by rw [g3,Aa0];omega⟩
  · cases h
theorem bw (ops:Array Oper):((BO ops).all fun l=>(Aag ops.size).all fun j=>l.contains j)=true:=by
 rw [Aar];intro l hl;obtain ⟨g1,g2,g3⟩:=SK ops ops.size [] l List.nodup_nil (fun x hx=>by cases hx) hl;rw [Aa1,Ab8] at g3;rw [Aar];intro j hj;rw [Aai];by_cases h:j ∈ l
 · exact h
 · exfalso
   have hjr:=Aad.1 hj
   have h5:=Vy (j :: l) (Aag ops.size) (Ab2.2 ⟨h,g1⟩) (fun x hx=>by
    rcases Ab5.1 hx with rfl | hx
    · exact hj
    · exact Aad.2 (g2 x hx))
   rw [Aa0,List.length_range] at h5;omega
def qO (ops:Array Oper):Bool:=(Aag ops.size).all fun i=>match ops[i]? with
 | some o=>o.after.toList.all fun e=>!Region.binds .any e || decide (e.on < i)
 | none=>false
theorem gC {ops:Array Oper} (h:qO ops=true):(BO ops).isEmpty=false:=by
 have hb:=Aar.1 h
 have go:∀ (k m:Nat),m+k=ops.size->∃ l,l ∈ Df ops k (Aag m).reverse:=by
  intro k
  induction k with
  | zero=>intro m hm;exact ⟨_,Abd.2 rfl⟩
  | succ k ih=>
   intro m hm;obtain ⟨l,hl⟩:=ih (m+1) (by omega);refine ⟨l,?_⟩;unfold Df;rw [Abf];refine ⟨m,Aad.2 (by omega),?_⟩
   have hr:Ka ops (Aag m).reverse m=true:=by
    have h1:=hb m (Aad.2 (by omega));unfold Ka;rw [Ab1];refine ⟨?_,?_⟩
    · rw [Bool.not_eq_true']
      cases hc:(Aag m).reverse.contains m with
      | false=>rfl
      | true=>
       have:=Aad.1 (Ab0.1 (Aai.1 hc));omega
    · cases ho:ops[m]? with
      | none=>rw [ho] at h1;cases h1
      | some o=>
       rw [ho] at h1;rw [Aar] at h1 |-;intro e he;have:=h1 e he;rw [Bool.or_eq_true] at this |-;rcases this with h2 | h2
       · exact .inl h2
       · exact .inr (Aai.2 (Ab0.2 (Aad.2 (of_decide_eq_true h2))))
   rw [hr,if_pos rfl,show m :: (Aag m).reverse=(Aag (m+1)).reverse from by rw [List.range_succ,List.reverse_append];rfl];exact hl
 obtain ⟨l,hl⟩:=go ops.size 0 (Ab8 _);unfold BO;cases hc:Df ops ops.size [] with
 | nil=>rw [show (Aag 0).reverse=([]:List Nat) from rfl,hc] at hl;cases hl
 | cons a r=>rfl
end Go.HH
