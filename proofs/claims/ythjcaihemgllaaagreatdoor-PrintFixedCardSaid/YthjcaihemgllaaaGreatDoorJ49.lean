/-
  What the law needs, packed: SD SE SF SG SI SJ.
-/
import Derived.Test.YthjcaihemgllaaaGreatDoorJ48
open List renaming length_eq_zero_iff->Aa0,length_cons->Aa1,length_append->Aa4,map_cons->Aa9,length_map->Aab,length_singleton->Aac,mem_cons->Aae,all_cons->Aag,map_map->Aah,append_assoc->Aal,length_drop->Aam,append_nil->Aap
open Bool renaming and_eq_true->Aa2,and_eq_false_iff->Aad,or_eq_false_iff->Aaj,not_eq_false'->Aak,or_eq_true->Aaq
open Go.Lib renaming itoa->Aa3,decDigits->Aaa
open Nat renaming le_refl->Aa5,lt_succ_self->Aao,pow_succ->Aar,zero_le->Aas
open Decidable renaming of_not_not->Aa6
open Int renaming ofNat_inj->Aa7
open UInt8 renaming ofNat->Aa8,toNat_lt->Aan
open Prod renaming fst->Aaf,snd->Aai
namespace Go.HH
open Go Go.Proofs
set_option maxRecDepth 100000
set_option linter.unusedSimpArgs false
set_option linter.unusedVariables false
def RT (w:List UInt8) (l d:Nat) (e:Tr):Prop:=∃ ts,Lx w ts/\G l ts d e/\SN l ts/\(7<=l->J4 e≠1->zP ts)
theorem RT.le {w:List UInt8} {l l' d d':Nat} {e:Tr} (h:RT w l d e) (hl:l'<=l) (hd:d<=d'):RT w l' d' e:=by
 obtain ⟨ts,h1,h2,h3,h4⟩:=h;obtain ⟨k,rfl⟩:∃ k,l=l'+k:=⟨l - l',by omega⟩;exact ⟨ts,h1,G.mono hd (wV h2 h3),h3.mono hl,fun h=>h4 (by omega)⟩
theorem Y6 (w:List UInt8) (b:UInt8) (n:Nat):amtN (w++[b]) n=10 * amtN w n+(b.toNat - 48):=by
 unfold amtN;rw [List.foldl_append];rfl
theorem lA:∀ k:_root_.Fin 10,dg (Aa8 (48+k.val)).toNat=true/\(Aa8 (48+k.val)).toNat - 48=k.val:=by decide +kernel
theorem bE:∀ m n,n < m->oL (Aaa n)=true/\amtN (Aaa n) 0=n
 | 0,_,h=>by omega
 | m+1,n,h=>by
  by_cases c:n < 10
  · have e:=lA ⟨n,c⟩
    rw [Lib.decDigits_one c];refine ⟨?_,?_⟩
    · show (!false && ([Aa8 (48+n)].all fun b=>dg b.toNat))=true
      rw [Aag,e.1];rfl
    · have:=Y6 [] (Aa8 (48+n)) 0
      rw [List.nil_append] at this;rw [this,e.2];show 10 * 0+n=n;omega
  · obtain ⟨h1,h2⟩:=bE m (n / 10) (by omega)
    have e:=lA ⟨n % 10,by omega⟩
    have ed:Aaa n=Aaa (n / 10)++[Aa8 (48+n % 10)]:=by
     rw [Aaa,dif_neg c]
    rw [ed,Y6,h2,e.2];unfold oL at h1 |-;rw [Aa2] at h1 |-;have e0:dg (Aa8 (48+n % 10)).toNat=true:=e.1;refine ⟨⟨by simp,by rw [List.all_append,h1.2,Aag,e0];rfl⟩,?_⟩;show 10 * (n / 10)+n % 10=n;omega
theorem Ju {n:Int} (h:0<=n):oL (Aa3 n)=true/\(amtN (Aa3 n) 0:Int)=n:=by
 unfold Aa3;rw [if_neg (by omega)];have:=bE _ n.toNat (Aao _);exact ⟨this.1,by rw [this.2];omega⟩
theorem oR {n:Int} (h:n < 0):∃ w,Aa3 n=45 :: w/\oL w=true/\(amtN w 0:Int)=-n:=by
 unfold Aa3;rw [if_pos h];have:=bE _ n.natAbs (Aao _);exact ⟨_,rfl,this.1,by rw [this.2];omega⟩
theorem lB:∀ (n:_root_.Fin 256) ,(cy 0 n.val=true->sm n.val=true)/\(cy 1 n.val=true->pt n.val=true):=by decide +kernel
theorem xh (i n:Nat):cy (i+1) n=cy 1 n:=by unfold cy;simp
theorem dK:∀ (r:List UInt8) (i:Nat),Tm (i+1) r=true->r.all (fun b=>pt b.toNat)=true
 | [],_,_=>rfl
 | c :: r,i,h=>by
  unfold Tm at h;rw [Aa2,xh] at h;have e1:pt c.toNat=true:=(lB ⟨c.toNat,Aan c⟩).2 h.1;rw [Aag,e1,dK r (i+1) h.2];rfl
theorem FC {s:List UInt8} (h:BQ s=true):Pj s=true:=by
 unfold BQ at h;rw [Aa2,decide_eq_true_eq] at h;cases s with
 | nil=>simp at h
 | cons c r=>
  have h2:=h.2;unfold Tm at h2;rw [Aa2] at h2;unfold Pj;have e1:sm c.toNat=true:=(lB ⟨c.toNat,Aan c⟩).1 h2.1;show (sm c.toNat && r.all fun b=>pt b.toNat)=true;rw [e1,dK r 0 h2.2];rfl
theorem xi {v:Vl} (h:JL v=0):NW v.1 v.2.1=some true:=by
 unfold JL at h;split at h
 · cases h
 · cases h
 · assumption
section
variable {d:Nat}
theorem SO {k:Nat} {w:List UInt8} {r:List KT} (h1:k≠1) (h2:k≠4\/w≠[45]):SN 8 ((k,w) :: r):=
 ⟨by simp,fun _ h=>h1 (congrArg Aaf h),fun _ h=>h1 (congrArg Aaf h),fun _ h=>h2.elim (fun x=>x (congrArg Aaf h)) (fun x=>x (congrArg Aai h))⟩
theorem lC {r:List KT}:SN 7 ((4,[45]) :: r):=
 ⟨by simp,fun _ h=>absurd (congrArg Aaf h) (by decide:(4:Nat)≠1),fun _ h=>absurd (congrArg Aaf h) (by decide:(4:Nat)≠1),fun h=>absurd h (by decide)⟩
theorem Ia {w:List UInt8} {r:List KT} (h1:w≠[105,102]) (h2:w≠[110,111,116]):SN 8 ((1,w) :: r):=
 ⟨by simp,fun _ h=>h1 (congrArg Aai h),fun _ h=>h2 (congrArg Aai h),fun _ h=>absurd (congrArg Aaf h) (by decide:(1:Nat)≠4)⟩
theorem oS:RT sT 8 d (El 1 1):=⟨[(1,[116,114,117,101])],CE (by decide),sV,Ia (by decide) (by decide),fun _ h=>absurd rfl h⟩
theorem lD:RT sF 8 d (El 1 0):=⟨[(1,[102,97,108,115,101])],CE (by decide),oP,Ia (by decide) (by decide),fun _ h=>absurd rfl h⟩
theorem sZ {n:Int} (hn:0<=n):RT (Aa3 n) 8 d (El 2 n):=by
 obtain ⟨e2,e3⟩:=Ju hn;have hg:=w8 (w:=Aa3 n) (d:=d);rw [e3] at hg;exact ⟨[(2,Aa3 n)],Jr e2,hg,SO (by decide) (.inl (by decide)),fun _ h=>absurd rfl h⟩
theorem s0 {n:Int} (hn:n < 0):RT (Aa3 n) 7 d (El 2 n):=by
 obtain ⟨w,e1,e2,e3⟩:=oR hn;rw [e1];have hg:=sS (w:=w) (d:=d);rw [e3,Int.neg_neg] at hg;exact ⟨[(4,[45]),(2,w)],Ee (FQ (c:=45) (by decide)) (Jr e2),hg,lC,fun _ h=>absurd rfl h⟩
theorem s7 {n:Int} (hn:0<=n) (h2:n<=63):RT (35 :: Aa3 n) 8 d (El 3 n):=by
 obtain ⟨e2,e3⟩:=Ju hn;have hg:=xe (w:=Aa3 n) (d:=d) (by omega);rw [e3] at hg;exact ⟨[(4,[35]),(2,Aa3 n)],oM e2,hg,SO (by decide) (.inr (by decide)),fun _ h=>absurd rfl h⟩
theorem s8 {s:List UInt8} (h:s.length<=60):RT (BC s) 8 d (.mk 1 0 0 [] (4,0,s) zK []):=
 ⟨[(3,s)],(lq h).lx,xc,SO (by decide) (.inl (by decide)),fun _ h=>absurd rfl h⟩
theorem s9 {v:Vl} (hc:JL v=0) (h0:v.1≠0):RT (ZB v) (gg v).toNat d (.mk 1 0 0 [] v zK []):=by
 have hk:=ba hc;have ho:=xi hc
 have ep:ZB v=if v.1=1 then (if v.2.1=1 then sT else sF) else if v.1=2 then Aa3 v.2.1 else if v.1=3 then 35 :: Aa3 v.2.1 else BC v.2.2:=by
  unfold ZB;rw [if_neg (by omega),if_neg h0]
 rw [ep];clear ep hc;unfold gg;obtain ⟨k,n,s⟩:=v;simp only at hk ho h0 |-;obtain ⟨uR,hk,hs⟩:=hk;have hk:k=1\/k=2\/k=3\/k=4:=by omega
 rcases hk with rfl | rfl | rfl | rfl
 · have hs:=hs (by decide)
   subst hs
   have hn:n=0\/n=1:=by
    unfold NW at ho;simpa using ho
   rcases hn with rfl | rfl
   · exact lD
   · exact oS
 · have hs:=hs (by decide)
   subst hs;by_cases hn:n < 0
   · have e:(if (2:Int)=2/\n < 0 then (7:Int) else 8)=7:=if_pos ⟨rfl,hn⟩
     rw [e];exact s0 hn
   · have e:(if (2:Int)=2/\n < 0 then (7:Int) else 8)=8:=if_neg fun h=>hn h.2
     rw [e];exact sZ (by omega)
 · have hs:=hs (by decide)
   subst hs
   have hn:0<=n/\n<=63:=by
    unfold NW at ho;simpa using ho
   exact s7 hn.1 hn.2
 · have hn:n=0:=by
    unfold NW at ho;simpa using ho
   subst hn;exact s8 uR
theorem Pk {w:List UInt8} {r:List KT}:zP ((1,w) :: r):=⟨by simp,.inl (by decide:(1:Nat)≠2)⟩
theorem oT {k:Ky} (h1:1<=k.1) (h2:k.1<=250) (hx:BQ k.2.1=true) (hy:BQ k.2.2=true):RT (E8 k.1 k.2.1 k.2.2) 8 d (.mk 2 0 0 [] zV k []):=by
 obtain ⟨n,x,y⟩:=k;simp only at h1 h2 hx hy |-;obtain ⟨e2,e3⟩:=Ju (n:=n) (by omega);have hg:=sU (w:=Aa3 n) (d:=d) (by omega) (by omega) hx hy;rw [e3] at hg;have ht:E8 n x y=Aa3 n++([46]++(x++([46]++y))):=by unfold E8 cat;simp
 rw [ht]
 exact ⟨[(2,Aa3 n),(4,[46]),(1,x),(4,[46]),(1,y)],Da (Jr e2) (Ee (FQ (c:=46) (by decide)) (Da (CE (FC hx)) (Ee (FQ (c:=46) (by decide)) (CE (FC hy))) rfl)) rfl,hg,
  SO (by decide) (.inl (by decide)),fun _ _=>⟨by simp,.inr ⟨_,_,rfl⟩⟩⟩
theorem oU {s:List UInt8} (hs:BQ s=true):RT (cat [109,111,100,101,32,105,115,32] s) 8 d (.mk 3 0 0 s zV zK []):=by
 exact ⟨_,B9 (w:=[109,111,100,101]) (by decide) (B9 (w:=[105,115]) (by decide) (CE (FC hs))),sW hs,Ia (by decide) (by decide),fun _ _=>Pk⟩
theorem lE:∀ k:_root_.Fin 60,oL (two k.val)=true:=by decide +kernel
theorem W6 {n:Nat} (h:n < 1440):Lx (FL n) (Up n):=by
 have e1:=lE ⟨n / 60,by omega⟩;have e2:=lE ⟨n % 60,by omega⟩;exact Da (Jr e1) (Ee (FQ (c:=58) (by decide)) (Jr e2)) rfl
theorem oV {n m:Nat} (hn:n < 1440) (hm:m < 1440):RT (cat (cat (cat [116,105,109,101,32] (FL n)) [32,116,111,32]) (FL m)) 8 d (.mk 4 n m [] zV zK []):=by
 have ht:cat (cat (cat [116,105,109,101,32] (FL n)) [32,116,111,32]) (FL m)=[116,105,109,101]++32 :: (FL n++32 :: ([116,111]++32 :: FL m)):=by unfold cat;simp
 rw [ht];exact ⟨_,B9 (by decide) (Da (W6 hn) (IM (B9 (by decide) (W6 hm))) rfl),sX hn hm,Ia (by decide) (by decide),fun _ _=>Pk⟩
theorem oW {n:Nat} (hn:n<=4):RT (kj n) 8 d (.mk 15 n 0 [] zV zK []):=by
 match n,hn with
 | 0,_=>exact ⟨_,CE (w:=[104,111,109,101]) (by decide),sY,Ia (by decide) (by decide),fun _ _=>Pk⟩
 | 1,_=>exact ⟨_,B9 (w:=[104,111,109,101]) (by decide) (CE (w:=[103,117,101,115,116]) (by decide)),W5 (k:=0) rfl,Ia (by decide) (by decide),fun _ _=>Pk⟩
 | 2,_=>exact ⟨_,B9 (w:=[104,111,109,101]) (by decide) (CE (w:=[99,104,105,108,100]) (by decide)),W5 (k:=1) rfl,Ia (by decide) (by decide),fun _ _=>Pk⟩
 | 3,_=>exact ⟨_,B9 (w:=[104,111,109,101]) (by decide) (CE (w:=[97,100,117,108,116]) (by decide)),W5 (k:=2) rfl,Ia (by decide) (by decide),fun _ _=>Pk⟩
 | 4,_=>exact ⟨_,B9 (w:=[104,111,109,101]) (by decide) (CE (w:=[111,119,110,101,114]) (by decide)),W5 (k:=3) rfl,Ia (by decide) (by decide),fun _ _=>Pk⟩
def OR:Nat->List (List UInt8)->List KT
 | _,[]=>[]
 | m,w :: r=>if m % 2=1 then (if m / 2=0 then [(1,w)] else (1,w) :: (4,[44]) :: OR (m / 2) r) else OR (m / 2) r
def lF:Nat->List (List UInt8)->Nat->Nat->Nat
 | _,[],_,a=>a
 | m,_ :: r,k,a=>if m % 2=1 then (if m / 2=0 then a ||| 2 ^ k else lF (m / 2) r (k+1) (a ||| 2 ^ k)) else lF (m / 2) r (k+1) a
theorem Y7:∀ m:_root_.Fin 128,lF m.val Cw 0 0=m.val:=by decide +kernel
theorem QE:∀ (ws:List (List UInt8)) (m:Nat),(∀ w ∈ ws,Pj w=true)->m≠0->m < 2 ^ ws.length->Lx (WI m ws) (OR m ws)
 | [],m,_,h0,h=>by simp at h;omega
 | w :: r,m,hw,h0,h=>by
  rw [Aa1,Aar] at h;unfold WI OR;by_cases c:m % 2=1
  · rw [if_pos c,if_pos c]
    by_cases c2:m / 2=0
    · rw [if_pos c2,if_pos c2]
      exact CE (hw w (by simp))
    · rw [if_neg c2,if_neg c2]
      exact Da (CE (hw w (by simp))) (Ee (FQ (c:=44) (by decide)) (QE r (m / 2) (fun x hx=>hw x (by simp [hx])) c2 (by omega))) rfl
  · rw [if_neg c,if_neg c]
    exact QE r (m / 2) (fun x hx=>hw x (by simp [hx])) (by omega) (by omega)
theorem lG {L:List Tk} {i k:Nat} {w:List UInt8} {r:List KT} (h:Dq L i ((1,w) :: r)) (hp:JH (1,w) 1 Cw 0=some k):PS L i=.ok k (i+1):=by
 unfold PS;rw [QD h];show (match JH (1,w) 1 Cw 0 with | some k=>_ | none=>_)=_;rw [hp]
theorem QF {L:List Tk}:∀ (ws:List (List UInt8)) (k m a n i:Nat) (r:List KT),(∀ j w,ws[j]?=some w->JH (1,w) 1 Cw 0=some (k+j))->m≠0->m < 2 ^ ws.length->(OR m ws).length<=n->Dq L i (OR m ws++r)->Ly (Js r) < 8 ->
 Hb L n a i=.ok (lF m ws k a) (i+(OR m ws).length)
 | [],k,m,a,n,i,r,_,h0,h,_,_,_=>by simp at h;omega
 | w :: q,k,m,a,n,i,r,hw,h0,h,hn,By,hl=>by
  rw [Aa1,Aar] at h;have hw0:=hw 0 w rfl
  have hws:∀ j x,q[j]?=some x->JH (1,x) 1 Cw 0=some (k+1+j):=fun j x hx=>by
   have:=hw (j+1) x hx;rw [this];congr 1;omega
  unfold OR at By hn |-;unfold lF;by_cases c:m % 2=1
  · rw [if_pos c] at By hn |-
    rw [if_pos c];by_cases c2:m / 2=0
    · rw [if_pos c2] at By hn |-
      rw [if_pos c2];rw [Aac] at hn;obtain ⟨n,rfl⟩:∃ x,n=x+1:=⟨n - 1,by omega⟩;unfold Hb;rw [lG By hw0,A1,Jt (A7 By) hl (by decide)];rfl
    · rw [if_neg c2] at By hn |-
      rw [if_neg c2];rw [Aa1,Aa1] at hn;obtain ⟨n,rfl⟩:∃ x,n=x+1:=⟨n - 1,by omega⟩;have h1:=A7 By;have ih:=QF q (k+1) (m / 2) (a ||| 2 ^ k) n (i+1+1) r hws c2 (by omega) (by omega) (A7 h1) hl;unfold Hb;rw [lG By hw0,A1,CT h1,if_pos rfl];show Hb L n (a ||| 2 ^ (k+0)) (i+1+1)=_;rw [Nat.add_zero,ih];exact GG (by simp only [Aa1];omega)
  · rw [if_neg c] at By hn |-
    rw [if_neg c];exact QF q (k+1) (m / 2) a n i r hws (by omega) (by omega) hn By hl
theorem dL {L:List Tk} {i:Nat} {ts r:List KT} (h:Dq L i (ts++r)):ts.length<=L.length:=by
 unfold Dq at h;have:((L.drop i).map kt).length=(ts++r).length:=by rw [h]
 rw [Aab,Aam,Aa4] at this;omega
theorem Y8:∀ (j:Nat) (w:List UInt8),Cw[j]?=some w->JH (1,w) 1 Cw 0=some (0+j):=by
 intro j w h
 match j,h with
 | 0,h | 1,h | 2,h | 3,h | 4,h | 5,h | 6,h=>injection h with h;subst h;rfl
 | j+7,h=>cases h
theorem tc {m:Nat} (h0:m≠0) (h:m < 128):GR .prim 8 ((1,[100,97,121,115]) :: OR m Cw) d (.mk 5 m 0 [] zV zK []):=Mn fun L i r By hl=>by
 have h1:Dq L (i+1) (OR m Cw++r):=A7 By;have h2:=QF Cw 0 m 0 (L.length+1) (i+1) r Y8 h0 h (by have:=dL h1;omega) h1 hl;have hu:=Y7 ⟨m,h⟩;simp only at hu;rw [hu] at h2;have ym:Dq L i ((1,[100,97,121,115]) :: (OR m Cw++r)):=By;unfold Fp Kq;rw [A2 ym,A2 ym,A2 ym,A2 ym,A2 ym,h2];show PR.ok _ _=PR.ok _ _;exact GG (by simp only [Aa1];omega)
theorem oX {m:Nat} (h0:m≠0) (h:m < 128):RT (P7 m) 8 d (.mk 5 m 0 [] zV zK []):=
 ⟨_,B9 (w:=[100,97,121,115]) (by decide) (QE bc m (by decide) h0 h),tc h0 h,Ia (by decide) (by decide),fun _ _=>Pk⟩
end
section
variable {d:Nat} {A B C:List UInt8} {a b c:Tr}
theorem td (h:RT A 0 d a):RT (cat (cat [40] A) [41]) 8 (d+1) a:=by
 obtain ⟨ts,h1,h2,h3,_⟩:=h;have e:cat (cat [40] A) [41]=[40]++(A++[41]):=by unfold cat;simp
 rw [e];exact ⟨(4,[40]) :: (ts++[(4,[41])]),Ee (FQ (c:=40) (by decide)) (Da h1 (FQ (c:=41) (by decide)).lx rfl),xf h2,SO (by decide) (.inr (by decide)),fun _ _=>⟨by simp,.inl (by decide:(4:Nat)≠2)⟩⟩
theorem K0 {l:Nat} {ts r:List KT} (h:SN l ts):SN l (ts++r):=by
 obtain ⟨h1,h2⟩:=h;refine ⟨by simp [h1],?_⟩;rw [dI h1];exact h2
theorem xj (ha:RT A 0 d a) (hb:RT B 0 d b) (hc:RT C 0 d c):RT (cat (cat (cat (cat (cat [105,102,32] A) [32,116,104,101,110,32]) B) [32,101,108,115,101,32]) C) 0 (d+1) (Bd 14 [a,b,c]):=by
 obtain ⟨t1,x1,y1,_,_⟩:=ha;obtain ⟨t2,x2,y2,_,_⟩:=hb;obtain ⟨t3,x3,y3,_,_⟩:=hc;have e:cat (cat (cat (cat (cat [105,102,32] A) [32,116,104,101,110,32]) B) [32,101,108,115,101,32]) C=[105,102]++32 :: (A++(32 :: ([116,104,101,110]++32 :: (B++(32 :: ([101,108,115,101]++32 :: C)))))):=by unfold cat;simp
 rw [e];exact ⟨_,B9 (by decide) (Da x1 (IM (B9 (by decide) (Da x2 (IM (B9 (by decide) x3)) rfl))) rfl),zO y1 y2 y3,⟨by simp,fun h=>absurd h (by decide),fun h=>absurd h (by decide),fun h=>absurd h (by decide)⟩,fun h=>absurd h (by decide)⟩
theorem QG {op:List UInt8} {t1 t2:List KT} (x1:Lx A t1) (x2:Lx B t2) (ho:Lx op [(4,op)]):Lx (cat (cat (cat (cat A [32]) op) [32]) B) (t1++(4,op) :: t2):=by
 have e:cat (cat (cat (cat A [32]) op) [32]) B=A++(32 :: (op++(32 :: B))):=by unfold cat;simp
 rw [e];exact Da x1 (IM (Da ho (IM x2) rfl)) rfl
theorem W7 {op:List UInt8} {k:Nat} (hw:JH (4,op) 4 GF 0=some k) (hl4:Ly (4,op) < 5) (ho:Lx op [(4,op)]) (ha:RT A 5 d a) (hb:RT B 5 d b):RT (cat (cat (cat (cat A [32]) op) [32]) B) 4 d (PT k a b):=by
 obtain ⟨t1,x1,y1,z1,_⟩:=ha;obtain ⟨t2,x2,y2,_,_⟩:=hb;exact ⟨_,QG x1 x2 ho,wY hw hl4 y1 y2,K0 (z1.mono (by decide)),fun h=>absurd h (by decide)⟩
theorem tf (ha:RT A 5 d a) (hb:RT B 6 d b):RT (cat (cat (cat (cat A [32]) [43]) [32]) B) 5 d (Bd 11 [a,b]):=by
 obtain ⟨t1,x1,y1,z1,_⟩:=ha;obtain ⟨t2,x2,y2,_,_⟩:=hb;exact ⟨_,QG x1 x2 (FQ (c:=43) (by decide)).lx,wZ y1 y2,K0 z1,fun h=>absurd h (by decide)⟩
theorem tg (ha:RT A 5 d a) (hb:RT B 6 d b):RT (cat (cat (cat (cat A [32]) [45]) [32]) B) 5 d (Bd 12 [a,b]):=by
 obtain ⟨t1,x1,y1,z1,_⟩:=ha;obtain ⟨t2,x2,y2,_,_⟩:=hb;exact ⟨_,QG x1 x2 (FQ (c:=45) (by decide)).lx,w5 y1 y2,K0 z1,fun h=>absurd h (by decide)⟩
theorem th (ha:RT A 6 d a) (hb:RT B 7 d b):RT (cat (cat (cat (cat A [32]) [42]) [32]) B) 6 d (Bd 13 [a,b]):=by
 obtain ⟨t1,x1,y1,z1,_⟩:=ha;obtain ⟨t2,x2,y2,_,_⟩:=hb;exact ⟨_,QG x1 x2 (FQ (c:=42) (by decide)).lx,w6 y1 y2,K0 z1,fun h=>absurd h (by decide)⟩
theorem tj (ha:RT A 3 d a):RT (cat [110,111,116,32] A) 3 (d+1) (Bd 6 [a]):=by
 obtain ⟨t1,x1,y1,z1,_⟩:=ha;exact ⟨(1,[110,111,116]) :: t1,B9 (w:=[110,111,116]) (by decide) x1,wX y1,⟨by simp,fun _ h=>absurd (congrArg Aai h) (by decide:([110,111,116]:List UInt8)≠[105,102]),fun h=>absurd h (by decide),fun h=>absurd h (by decide)⟩,fun h=>absurd h (by decide)⟩
theorem tl (ha:RT A 7 d a) (hk:J4 a≠1):RT (cat [45] A) 7 (d+1) (Bd 12 [El 2 0,a]):=by
 obtain ⟨t1,x1,y1,z1,w1⟩:=ha;exact ⟨(4,[45]) :: t1,Ee (FQ (c:=45) (by decide)) x1,w7 y1 (w1 (by decide) hk),lC,fun _ _=>⟨by simp,.inl (by decide:(4:Nat)≠2)⟩⟩
end
def tn (op:List UInt8):List (List UInt8)->List UInt8
 | []=>[]
 | s :: r=>32 :: (op++32 :: (s++tn op r))
theorem qQ (op:List UInt8):∀ l,bk (tn op l)=true
 | []=>rfl
 | _ :: _=>rfl
theorem lH {b:Bool} {lb d:Nat}:∀ (l:List (List UInt8×Tr)),(∀ x ∈ l,∃ ts,Lx x.1 ts/\GR (Eo b) lb ts d x.2)->∃ ks:List (List KT×Tr),ks.map (·.2)=l.map (·.2)/\(∀ y ∈ ks,GR (Eo b) lb y.1 d y.2)/\Lx (tn (MZ b) (l.map (·.1))) (gE b ks)
 | [],_=>⟨[],rfl,fun _ h=>(by cases h),ll.lx⟩
 | (s,e) :: l,h=>by
  obtain ⟨ks,k1,k2,k3⟩:=lH l fun x hx=>h x (by simp [hx]);obtain ⟨ts,t1,t2⟩:=h (s,e) (by simp);refine ⟨(ts,e) :: ks,by rw [Aa9,Aa9,k1],fun y hy=>?_,?_⟩
  · rcases Aae.1 hy with rfl | hy
    · exact t2
    · exact k2 y hy
  · exact IM (B9 (by cases b <;> decide) (Da t1 k3 (qQ _ _)))
theorem tq (b:Bool) {d:Nat} {s:List UInt8} {e:Tr} {l:List (List UInt8×Tr)} (hn:l.length<=7) (h:∀ x ∈ (s,e) :: l,RT x.1 (if b then 2 else 3) d x.2):RT (s++tn (MZ b) (l.map (·.1))) (Ly (1,MZ b)) d (js b (e :: l.map (·.2))):=by
 have hx:∀ x ∈ (s,e) :: l,∃ ts,Lx x.1 ts/\GR (Eo b) (if b then 2 else 3) ts d x.2:=fun x hx=>by
  obtain ⟨ts,t1,t2,_,_⟩:=h x hx;refine ⟨ts,t1,?_⟩;cases b <;> exact t2
 obtain ⟨ks,k1,k2,k3⟩:=lH l fun x h=>hx x (by simp [h]);obtain ⟨ts,t1,t2,t3,_⟩:=h (s,e) (by simp)
 have hl:ks.length<=7:=by
  have:(ks.map (·.2)).length=(l.map (·.2)).length:=by rw [k1]
  rw [Aab,Aab] at this;omega
 have hg:=wW (b:=b) (lb:=if b then 2 else 3) (by cases b <;> decide) hl (A:=ts) (a:=e) (d:=d) (by cases b <;> exact t2) k2;rw [k1] at hg;refine ⟨ts++gE b ks,Da t1 k3 (qQ _ _),?_,K0 (t3.mono (by cases b <;> decide)),fun h=>absurd h (by cases b <;> decide)⟩;cases b <;> exact hg
theorem dM (op:List UInt8) (least:Int):∀ (l:List At) (i:Nat) (acc:List UInt8),Hi op least l (i+1) acc=acc++tn op (l.map fun a=>EN a least)
 | [],_,acc=>by unfold Hi;show acc=acc++[];rw [Aap]
 | a :: r,i,acc=>by
  unfold Hi;rw [if_pos (by omega),dM op least r (i+1)];show _=acc++(32 :: (op++32 :: (EN a least++tn op (r.map fun a=>EN a least))));unfold cat;simp
theorem tv (op:List UInt8) (least:Int) (a:At) (l:List At):Hi op least (a :: l) 0 []=EN a least++tn op (l.map fun a=>EN a least):=by
 show Hi op least l 1 (cat (if 0 < 0 then _ else []) (EN a least))=_;rw [if_neg (by omega),dM];rfl
def RB (t:Tr) (d:Nat):Prop:=RT (TX t) (LV t).toNat d t/\0<=LV t/\LV t<=8
def RR (t:Tr) (d:Nat):Prop:=RB t d/\S6 t=0/\∀ g ∈ EO t,RB g d
theorem RB.mono {t:Tr} {d d':Nat} (h:RB t d) (hd:d<=d'):RB t d':=⟨h.1.le (Aa5 _) hd,h.2⟩
theorem SP {t:Tr} {d:Nat} (h:RB t d) (least:Int) (l:Nat) (hl:least=l) (h8:l<=8):RT (EN (an t) least) l (d+1) t:=by
 obtain ⟨h1,h2,h3⟩:=h;unfold EN;by_cases c:(an t).lv < least
 · rw [if_pos c]
   exact (td (h1.le (Aas _) (Aa5 _))).le h8 (Aa5 _)
 · rw [if_neg c]
   have c:¬ LV t < least:=c;exact h1.le (by omega) (by omega)
theorem sp0 {k n m:Int} {nm:List UInt8} {v:Vl} {key:Ky} {kids:List Tr} (h:aA (.mk k n m nm v key kids)=false) :
 (n=0\/k=4\/k=5\/k=15)/\(m=0\/k=4)/\(nm=[]\/k=3)/\(v=zV\/k=1)/\(key=zK\/k=2):=by
 obtain ⟨v1,v2,v3⟩:=v;obtain ⟨y1,y2,y3⟩:=key;simp only [aA,yx,Ra,ED,Aaj,Aad,Aak,Aaq,Aa2,beq_iff_eq,bne_eq_false_iff_eq] at h;obtain ⟨⟨⟨⟨h1,h2⟩,h3⟩,h4⟩,h5⟩:=h;refine ⟨?_,h2,h3,?_,?_⟩
 · rcases h1 with h | (h | h) | h
   · exact .inl h
   · exact .inr (.inl h)
   · exact .inr (.inr (.inl h))
   · exact .inr (.inr (.inr h))
 · rcases h4 with ⟨⟨rfl,rfl⟩,rfl⟩ | h
   · exact .inl rfl
   · exact .inr h
 · rcases h5 with ⟨⟨rfl,rfl⟩,rfl⟩ | h
   · exact .inl rfl
   · exact .inr h
theorem nd0 {k n m:Int} {nm:List UInt8} {v:Vl} {key:Ky} {kids:List Tr} (h:S6 (.mk k n m nm v key kids)=0) :
 1<=k/\k<=15/\Ek k kids.length=true/\aA (.mk k n m nm v key kids)=false/\E' k n m key.1=true/\(k=3->BQ nm=true)/\(k=2->BQ key.2.1=true/\BQ key.2.2=true)/\(k=1->JL v=0/\v.1≠0):=by
 have h:(if k < 1\/15 < k then (7:Int) else if Ek k kids.length=false\/aA (.mk k n m nm v key kids)=true then 1 else if E' k n m key.1=false then 2 else
  if k=3 then (if BQ nm then 0 else 10) else if k=2 then (if BQ key.2.1 && BQ key.2.2 then 0 else 10) else if k=1 then (if JL v≠0 then JL v else if v.1=0 then 7 else 0) else 0)=0:=h
 by_cases c1:k < 1\/15 < k
 · rw [if_pos c1] at h;cases h
 rw [if_neg c1] at h;by_cases c2:Ek k kids.length=false\/aA (.mk k n m nm v key kids)=true
 · rw [if_pos c2] at h;cases h
 rw [if_neg c2] at h;by_cases c3:E' k n m key.1=false
 · rw [if_pos c3] at h;cases h
 rw [if_neg c3] at h;refine ⟨by omega,by omega,?_,?_,?_,fun e=>?_,fun e=>?_,fun e=>?_⟩
 · cases x:Ek k kids.length with
   | true=>rfl
   | false=>exact absurd (.inl x) c2
 · cases x:aA (.mk k n m nm v key kids) with
   | false=>rfl
   | true=>exact absurd (.inr x) c2
 · cases x:E' k n m key.1 with
   | true=>rfl
   | false=>exact absurd x c3
 · rw [if_pos e] at h
   cases x:BQ nm with
   | true=>rfl
   | false=>rw [x] at h;cases h
 · rw [if_neg (by omega),if_pos e] at h
   cases x:BQ key.2.1 with
   | false=>rw [x] at h;cases h
   | true=>
    cases y:BQ key.2.2 with
    | true=>exact ⟨rfl,rfl⟩
    | false=>rw [x,y] at h;cases h
 · rw [if_neg (by omega),if_neg (by omega),if_pos e] at h
   by_cases x:JL v=0
   · rw [if_neg (fun y=>y x)] at h
     refine ⟨x,fun y=>?_⟩;rw [if_pos y] at h;cases h
   · rw [if_pos x] at h;exact absurd h x
theorem FR (k n m:Int) (nm:List UInt8) (v:Vl) (key:Ky) (kids:List Tr):TX (.mk k n m nm v key kids)=Le k n m nm v key kids (HL kids):=by
 unfold TX;rw [YJ];rfl
theorem FT (k n m:Int) (nm:List UInt8) (v:Vl) (key:Ky) (kids:List Tr):LV (.mk k n m nm v key kids)=WL k v kids:=by
 unfold LV;rw [YJ];rfl
theorem zQ {l:List Tr} (h:l.length=1):∃ a,l=[a]:=by
 match l,h with
 | [a],_=>exact ⟨a,rfl⟩
theorem gF {l:List Tr} (h:l.length=2):∃ a b,l=[a,b]:=by
 match l,h with
 | [a,b],_=>exact ⟨a,b,rfl⟩
theorem zR {l:List Tr} (h:l.length=3):∃ a b c,l=[a,b,c]:=by
 match l,h with
 | [a,b,c],_=>exact ⟨a,b,c,rfl⟩
theorem tw (a:Tr):HL [a]=[an a]:=by rw [Nr];rfl
theorem Y9 (a b:Tr):HL [a,b]=[an a,an b]:=by rw [Nr];rfl
theorem zS (a b c:Tr):HL [a,b,c]=[an a,an b,an c]:=by rw [Nr];rfl
theorem lI {t:Tr} {k:Int} (h:S6 t=0) (hk:J4 t=k) (h9:9<=k) (yl:k<=13):∃ a b,t=Bd k [a,b]:=by
 obtain ⟨k',n,m,nm,v,key,kids⟩:=t;have hk:k'=k:=hk;subst hk;obtain ⟨_,_,f3,f4,_⟩:=nd0 h;obtain ⟨s1,s2,s3,s4,s5⟩:=sp0 f4;have e1:n=0:=by omega
 have e2:m=0:=by omega
 have e3:nm=[]:=s3.resolve_right (by omega);have e4:v=zV:=s4.resolve_right (by omega);have e5:key=zK:=s5.resolve_right (by omega)
 have hl:kids.length=2:=by
  unfold Ek at f3;rw [if_neg (by omega),if_neg (by omega),if_pos ⟨h9,yl⟩] at f3;have:=beq_iff_eq.1 f3;omega
 obtain ⟨a,b,rfl⟩:=gF hl;exact ⟨a,b,by rw [e1,e2,e3,e4,e5];rfl⟩
theorem tz {t:Tr} (h:aS t 1 0 0 [] (2,0,[]) (0,[],[])=true):t=El 2 0:=by
 obtain ⟨k,n,m,nm,⟨v1,v2,v3⟩,⟨y1,y2,y3⟩,kids⟩:=t;simp only [aS,Ra,ED,Aa2,beq_iff_eq] at h;obtain ⟨⟨⟨⟨⟨⟨rfl,rfl⟩,rfl⟩,rfl⟩,⟨rfl,rfl⟩,rfl⟩,⟨rfl,rfl⟩,rfl⟩,h⟩:=h;rw [Aa0.1 h];rfl
theorem FU {t:Tr} {w:List UInt8} {l d:Nat} (h1:TX t=w) (h2:LV t=l) (h8:l<=8) (h:RT w l d t):RB t d:=by
 refine ⟨?_,by omega,by omega⟩;rw [h1,h2];exact h
theorem lJ {k:Int} (b:Bool) (hb:k=if b then 8 else 7) {d:Nat} {kids:List Tr} (hl:2<=kids.length/\kids.length<=8) (hk:∀ t ∈ kids,RR t d):RB (Bd k kids) (d+2):=by
 match kids,hl,hk with
 | a :: c :: r,hl,hk=>
  have h:=tq b (d:=d+1) (s:=EN (an a) (if b then 2 else 3)) (e:=a) (l:=(c :: r).map fun t=>(EN (an t) (if b then 2 else 3),t)) (by simp at hl |-;omega) (fun x hx=>by
   have key:∀ t ∈ a :: c :: r,RT (EN (an t) (if b then 2 else 3)) (if b then 2 else 3) (d+1) t:=fun t ht=>SP (hk t ht).1 _ _ (by cases b <;> rfl) (by cases b <;> decide);rcases Aae.1 hx with rfl | hx
   · exact key a (by simp)
   · obtain ⟨t,ht,rfl⟩:=List.mem_map.1 hx
     exact key t (List.mem_cons_of_mem _ ht))
  have e1:((c :: r).map fun t=>(EN (an t) (if b then 2 else 3),t)).map (·.2)=c :: r:=by rw [Aah];exact List.map_id' _
  have e2:((c :: r).map fun t=>(EN (an t) (if b then 2 else 3),t)).map (·.1)=(HL (c :: r)).map fun x=>EN x (if b then 2 else 3):=by
   rw [Aah,Nr,Aah];rfl
  rw [e1,e2,<- tv] at h;have h:=h.le (Aa5 _) (by omega:d+1<=d+2);cases b
  · have hb:k=7:=hb
    subst hb;exact FU (by rw [Bd,FR] <;> rfl) (by rw [Bd,FT] <;> rfl) (by decide) h
  · have hb:k=8:=hb
    subst hb;exact FU (by rw [Bd,FR] <;> rfl) (by rw [Bd,FT] <;> rfl) (by decide) h
set_option maxHeartbeats 2000000 in
theorem oY {k n m:Int} {nm:List UInt8} {v:Vl} {key:Ky} {kids:List Tr} {d:Nat} (h:S6 (.mk k n m nm v key kids)=0) (hk:∀ t ∈ kids,RR t d):RB (.mk k n m nm v key kids) (d+2):=by
 obtain ⟨f1,f2,f3,f4,f5,f6,f7,f8⟩:=nd0 h;obtain ⟨s1,s2,s3,s4,s5⟩:=sp0 f4;have K:∀ {t:Tr},t ∈ kids->∀ (least:Int) (l:Nat),least=l->l<=8->RT (EN (an t) least) l (d+1) t:=fun ht least l e1 e2=>SP (hk _ ht).1 least l e1 e2;have fN:n=0\/k=4\/k=5\/k=15:=s1;unfold Ek at f3;have hks:k=1\/k=2\/k=3\/k=4\/k=5\/k=6\/k=7\/k=8\/k=9\/k=10\/k=11\/k=12\/k=13\/k=14\/k=15:=by omega
 have z0:k≠4->k≠5->k≠15->n=0:=fun a b c=>by omega
 have z1:k≠4->m=0:=fun a=>s2.resolve_right a;have z2:k≠3->nm=[]:=fun a=>s3.resolve_right a;have z3:k≠1->v=zV:=fun a=>s4.resolve_right a;have z4:k≠2->key=zK:=fun a=>s5.resolve_right a;have lf:(if k=6 then (kids.length:Int) == 1 else if k=7\/k=8 then decide (2<=(kids.length:Int)) && decide ((kids.length:Int)<=8) else if 9<=k/\k<=13 then (kids.length:Int) == 2 else if k=14 then (kids.length:Int) == 3 else (kids.length:Int) == 0)=true:=f3;clear f3 s1 s2 s3 s4 s5 fN f4;rcases hks with rfl | rfl | rfl | rfl | rfl | rfl | rfl | rfl | rfl | rfl | rfl | rfl | rfl | rfl | rfl
 · have hl:kids=[]:=Aa0.1 (by simpa using lf)
   subst hl;obtain rfl:=z0 (by decide) (by decide) (by decide);obtain rfl:=z1 (by decide);obtain rfl:=z2 (by decide);obtain rfl:=z4 (by decide);obtain ⟨g1,g2⟩:=f8 rfl;have hv:gg v=7\/gg v=8:=by unfold gg;split <;> simp
   exact FU (l:=(gg v).toNat) (by rw [FR] <;> rfl) (by rw [FT];show gg v=_;omega) (by omega) (s9 g1 g2)
 · have hl:kids=[]:=Aa0.1 (by simpa using lf)
   subst hl;obtain rfl:=z0 (by decide) (by decide) (by decide);obtain rfl:=z1 (by decide);obtain rfl:=z2 (by decide);obtain rfl:=z3 (by decide);obtain ⟨g1,g2⟩:=f7 rfl;have hr:1<=key.1/\key.1<=250:=by simpa [E'] using f5
   exact FU (l:=8) (by rw [FR] <;> rfl) (by rw [FT] <;> rfl) (by omega) (oT hr.1 hr.2 g1 g2)
 · have hl:kids=[]:=Aa0.1 (by simpa using lf)
   subst hl;obtain rfl:=z0 (by decide) (by decide) (by decide);obtain rfl:=z1 (by decide);obtain rfl:=z3 (by decide);obtain rfl:=z4 (by decide);exact FU (l:=8) (by rw [FR] <;> rfl) (by rw [FT] <;> rfl) (by omega) (oU (f6 rfl))
 · have hl:kids=[]:=Aa0.1 (by simpa using lf)
   subst hl;obtain rfl:=z2 (by decide);obtain rfl:=z3 (by decide);obtain rfl:=z4 (by decide);have hr:0<=n/\n < 1440/\0<=m/\m < 1440:=by simpa [E'] using f5
   have g:=oV (d:=d+2) (n:=n.toNat) (m:=m.toNat) (by omega) (by omega);rw [show ((n.toNat:Nat):Int)=n from by omega,show ((m.toNat:Nat):Int)=m from by omega] at g;exact FU (l:=8) (by rw [FR] <;> rfl) (by rw [FT] <;> rfl) (by omega) g
 · have hl:kids=[]:=Aa0.1 (by simpa using lf)
   subst hl;obtain rfl:=z1 (by decide);obtain rfl:=z2 (by decide);obtain rfl:=z3 (by decide);obtain rfl:=z4 (by decide);have hr:1<=n/\n<=127:=by simpa [E'] using f5
   have g:=oX (d:=d+2) (m:=n.toNat) (by omega) (by omega);rw [show ((n.toNat:Nat):Int)=n from by omega] at g;exact FU (l:=8) (by rw [FR] <;> rfl) (by rw [FT] <;> rfl) (by omega) g
 · have hl:kids.length=1:=Aa7.1 (show (kids.length:Int)=((1:Nat):Int) from by simpa using lf)
   obtain ⟨a,rfl⟩:=zQ hl;obtain rfl:=z0 (by decide) (by decide) (by decide);obtain rfl:=z1 (by decide);obtain rfl:=z2 (by decide);obtain rfl:=z3 (by decide);obtain rfl:=z4 (by decide);have ha:=hk a (by simp);by_cases c9:J4 a=9
   · obtain ⟨x,y,rfl⟩:=lI ha.2.1 c9 (by decide) (by decide)
     have kx:RT (EN (an x) 5) 5 (d+1) x:=SP (ha.2.2 x (by simp [EO,Bd])) 5 5 rfl (by decide);have ky:RT (EN (an y) 5) 5 (d+1) y:=SP (ha.2.2 y (by simp [EO,Bd])) 5 5 rfl (by decide);have g:=W7 (k:=1) (op:=[33,61]) rfl (by decide) (bC (c:=33) (by decide)).lx kx ky;refine FU (l:=4) ?_ (by rw [FT] <;> rfl) (by omega) (g.le (Aa5 _) (by omega));rw [FR,tw];show Vk 9 (an (Bd 9 [x,y]))=_;unfold Vk;rw [if_pos rfl,Vm,show EO (Bd 9 [x,y])=[x,y] from rfl,Y9];rfl
   · by_cases c10:J4 a=10
     · obtain ⟨x,y,rfl⟩:=lI ha.2.1 c10 (by decide) (by decide)
       have kx:RT (EN (an x) 5) 5 (d+1) x:=SP (ha.2.2 x (by simp [EO,Bd])) 5 5 rfl (by decide);have ky:RT (EN (an y) 5) 5 (d+1) y:=SP (ha.2.2 y (by simp [EO,Bd])) 5 5 rfl (by decide);have g:=W7 (k:=5) (op:=[60,61]) rfl (by decide) (bC (c:=60) (by decide)).lx ky kx;refine FU (l:=4) ?_ (by rw [FT] <;> rfl) (by omega) (g.le (Aa5 _) (by omega));rw [FR,tw];show Vk 10 (an (Bd 10 [x,y]))=_;unfold Vk;rw [if_neg (by decide),if_pos rfl,Vm,show EO (Bd 10 [x,y])=[x,y] from rfl,Y9];rfl
     · have g:=tj (K (t:=a) (by simp) 3 3 rfl (by decide))
       refine FU (l:=3) ?_ ?_ (by omega) g
       · rw [FR,tw]
         show Vk (J4 a) (an a)=_;unfold Vk;rw [if_neg c9,if_neg c10]
       · rw [FT]
         show ko (J4 a)=_;unfold ko;rw [if_neg c9,if_neg c10];rfl
 · obtain rfl:=z0 (by decide) (by decide) (by decide);obtain rfl:=z1 (by decide);obtain rfl:=z2 (by decide);obtain rfl:=z3 (by decide);obtain rfl:=z4 (by decide)
   exact lJ false rfl (by simp at lf;omega) hk
 · obtain rfl:=z0 (by decide) (by decide) (by decide);obtain rfl:=z1 (by decide);obtain rfl:=z2 (by decide);obtain rfl:=z3 (by decide);obtain rfl:=z4 (by decide)
   exact lJ true rfl (by simp at lf;omega) hk
 · have hl:kids.length=2:=Aa7.1 (show (kids.length:Int)=((2:Nat):Int) from by simpa using lf)
   obtain ⟨a,b,rfl⟩:=gF hl;obtain rfl:=z0 (by decide) (by decide) (by decide);obtain rfl:=z1 (by decide);obtain rfl:=z2 (by decide);obtain rfl:=z3 (by decide);obtain rfl:=z4 (by decide);have g:=W7 (k:=0) (op:=[61,61]) rfl (by decide) (bC (c:=61) (by decide)).lx (K (t:=a) (by simp) 5 5 rfl (by decide)) (K (t:=b) (by simp) 5 5 rfl (by decide));exact FU (l:=4) (by rw [FR,Y9] <;> rfl) (by rw [FT] <;> rfl) (by omega) (g.le (Aa5 _) (by omega))
 · have hl:kids.length=2:=Aa7.1 (show (kids.length:Int)=((2:Nat):Int) from by simpa using lf)
   obtain ⟨a,b,rfl⟩:=gF hl;obtain rfl:=z0 (by decide) (by decide) (by decide);obtain rfl:=z1 (by decide);obtain rfl:=z2 (by decide);obtain rfl:=z3 (by decide);obtain rfl:=z4 (by decide);have g:=W7 (k:=2) (op:=[60]) rfl (by decide) (qP (c:=60) (by decide)) (K (t:=a) (by simp) 5 5 rfl (by decide)) (K (t:=b) (by simp) 5 5 rfl (by decide));exact FU (l:=4) (by rw [FR,Y9] <;> rfl) (by rw [FT] <;> rfl) (by omega) (g.le (Aa5 _) (by omega))
 · have hl:kids.length=2:=Aa7.1 (show (kids.length:Int)=((2:Nat):Int) from by simpa using lf)
   obtain ⟨a,b,rfl⟩:=gF hl;obtain rfl:=z0 (by decide) (by decide) (by decide);obtain rfl:=z1 (by decide);obtain rfl:=z2 (by decide);obtain rfl:=z3 (by decide);obtain rfl:=z4 (by decide);have g:=tf (K (t:=a) (by simp) 5 5 rfl (by decide)) (K (t:=b) (by simp) 6 6 rfl (by decide));exact FU (l:=5) (by rw [FR,Y9] <;> rfl) (by rw [FT] <;> rfl) (by omega) (g.le (Aa5 _) (by omega))
 · have hl:kids.length=2:=Aa7.1 (show (kids.length:Int)=((2:Nat):Int) from by simpa using lf)
   obtain ⟨a,b,rfl⟩:=gF hl;obtain rfl:=z0 (by decide) (by decide) (by decide);obtain rfl:=z1 (by decide);obtain rfl:=z2 (by decide);obtain rfl:=z3 (by decide);obtain rfl:=z4 (by decide);by_cases c:gh [a,b]=true
   · have c':(aS a 1 0 0 [] (2,0,[]) (0,[],[]) && (J4 b != 1))=true:=c
     rw [Aa2,bne_iff_ne] at c';obtain rfl:=tz c'.1;have g:=tl (K (t:=b) (by simp) 7 7 rfl (by decide)) c'.2;refine FU (l:=7) ?_ ?_ (by omega) g
     · rw [FR,Y9]
       show (if gh [El 2 0,b]=true then cat [45] (EN (an b) 7) else _)=_;rw [if_pos c]
     · rw [FT]
       show (if gh [El 2 0,b]=true then (7:Int) else 5)=_;rw [if_pos c];rfl
   · have g:=tg (K (t:=a) (by simp) 5 5 rfl (by decide)) (K (t:=b) (by simp) 6 6 rfl (by decide))
     refine FU (l:=5) ?_ ?_ (by omega) (g.le (Aa5 _) (by omega))
     · rw [FR,Y9]
       show (if gh [a,b]=true then _ else Nq (an a) 5 [45] (an b) 6)=_;rw [if_neg c];rfl
     · rw [FT]
       show (if gh [a,b]=true then (7:Int) else 5)=_;rw [if_neg c];rfl
 · have hl:kids.length=2:=Aa7.1 (show (kids.length:Int)=((2:Nat):Int) from by simpa using lf)
   obtain ⟨a,b,rfl⟩:=gF hl;obtain rfl:=z0 (by decide) (by decide) (by decide);obtain rfl:=z1 (by decide);obtain rfl:=z2 (by decide);obtain rfl:=z3 (by decide);obtain rfl:=z4 (by decide);have g:=th (K (t:=a) (by simp) 6 6 rfl (by decide)) (K (t:=b) (by simp) 7 7 rfl (by decide));exact FU (l:=6) (by rw [FR,Y9] <;> rfl) (by rw [FT] <;> rfl) (by omega) (g.le (Aa5 _) (by omega))
 · have hl:kids.length=3:=Aa7.1 (show (kids.length:Int)=((3:Nat):Int) from by simpa using lf)
   obtain ⟨a,b,c,rfl⟩:=zR hl;obtain rfl:=z0 (by decide) (by decide) (by decide);obtain rfl:=z1 (by decide);obtain rfl:=z2 (by decide);obtain rfl:=z3 (by decide);obtain rfl:=z4 (by decide);have g:=xj (K (t:=a) (by simp) 0 0 rfl (by decide)) (K (t:=b) (by simp) 0 0 rfl (by decide)) (K (t:=c) (by simp) 0 0 rfl (by decide));exact FU (l:=0) (by rw [FR,zS] <;> rfl) (by rw [FT] <;> rfl) (by omega) g
 · have hl:kids=[]:=Aa0.1 (by simpa using lf)
   subst hl;obtain rfl:=z1 (by decide);obtain rfl:=z2 (by decide);obtain rfl:=z3 (by decide);obtain rfl:=z4 (by decide);have hr:0<=n/\n<=4:=by simpa [E'] using f5
   have g:=oW (d:=d+2) (n:=n.toNat) (by omega);rw [show ((n.toNat:Nat):Int)=n from by omega] at g;exact FU (l:=8) (by rw [FR] <;> rfl) (by rw [FT] <;> rfl) (by omega) g
mutual
theorem xr (t:Tr) (lv c:Int) (d:Nat) (h:(U4 t lv c).2=0) (hd:50<=2 * lv+d):RR t d:=by
 match t with
 | .mk k n m nm v key kids=>
  unfold U4 at h;split at h
  · simp at h
  · split at h
    · simp at h
    · split at h
      · rename_i hn;exact absurd h hn
      · rename_i hn
        obtain ⟨d',rfl⟩:∃ x,d=x+2:=⟨d - 2,by omega⟩;have hk:=qR kids _ _ d' h (by omega);have hn:S6 (.mk k n m nm v key kids)=0:=by omega
        exact ⟨oY hn hk,hn,fun g hg=>(hk g hg).1.mono (by omega)⟩
theorem qR (l:List Tr) (lv c:Int) (d:Nat) (h:(L4 l lv c).2=0) (hd:50<=2 * lv+d):∀ t ∈ l,RR t d:=by
 match l with
 | []=>intro t ht;cases ht
 | t :: r=>
  unfold L4 at h;split at h
  · rename_i hn;exact absurd h hn
  · rename_i hn
    intro x hx;rcases Aae.1 hx with e | hx
    · rw [e];exact xr t lv c d (by omega) hd
    · exact qR r lv _ d h hd x hx
end
theorem xu {t:Tr} (h:Km t=0):RB t 50:=(xr t 1 0 50 h (by omega)).1
def lK (L:List Tk) (P:NT->Nat->Nat->PR Tr):NT->Nat->Nat->PR Tr
 | .expr,o,i=>if Br L 1 [105,102] i then
  (if o < 100 then (P .expr (o+1) (i+1)).bind fun c i=>(Bs L 1 [116,104,101,110] i).bind fun _ i=>(P .expr (o+1) i).bind fun a i=>(Bs L 1 [101,108,115,101] i).bind fun _ i=>(P .expr (o+1) i).bind fun b i=>.ok (Bd 14 [c,a,b]) i
  else .bad (atT L i) 22) else P (.chain true) o i
 | .chain b,o,i=>(P (Eo b) o i).bind fun a i=>P (.chainL b [a]) o i
 | .chainL b acc,o,i=>if Br L 1 (MZ b) i then (if acc.length=8 then .bad (atT L i) 3 else (P (Eo b) o (i+1)).bind fun a i=>P (.chainL b (acc++[a])) o i) else .ok (js b acc) i
 | .not,o,i=>if Br L 1 [110,111,116] i then (if o < 100 then (P .not (o+1) (i+1)).bind fun e i=>.ok (Bd 6 [e]) i else .bad (atT L i) 22) else P .cmp o i
 | .cmp,o,i=>(P .sum o i).bind fun a i=>match C0 L 4 i GF 0 with
  | some k=>(P .sum o (i+1)).bind fun b i=>.ok (PT k a b) i
  | none=>.ok a i
 | .sum,o,i=>(P .prod o i).bind fun e i=>P (.sumL e) o i
 | .sumL e,o,i=>if Br L 4 [43] i then (P .prod o (i+1)).bind fun f i=>P (.sumL (Bd 11 [e,f])) o i else
  if Br L 4 [45] i then (P .prod o (i+1)).bind fun f i=>P (.sumL (Bd 12 [e,f])) o i else .ok e i
 | .prod,o,i=>(P .un o i).bind fun e i=>P (.prodL e) o i
 | .prodL e,o,i=>if Br L 4 [42] i then (P .un o (i+1)).bind fun f i=>P (.prodL (Bd 13 [e,f])) o i else .ok e i
 | .un,o,i=>if Br L 4 [45] i then
  (if Cx L (i+1) then .ok (El 2 (-(amtN (tokAt L (i+1)).2.1 0:Int))) (i+2) else
  if o < 100 then (P .un (o+1) (i+1)).bind fun e i=>.ok (Bd 12 [El 2 0,e]) i else .bad (atT L i) 22) else P .prim o i
 | .prim,o,i=>if Cx L i then .ok (El 2 (amtN (tokAt L i).2.1 0:Int)) (i+1) else
  if (tokAt L i).1=2 then (Eb L i).bind fun k i=>.ok (.mk 2 0 0 [] zV k []) i else
  if (tokAt L i).1=3 then .ok (.mk 1 0 0 [] (4,0,(tokAt L i).2.1) zK []) (i+1) else
  if Br L 4 [35] i then (Hq L 0 63 (i+1)).bind fun n i=>.ok (El 3 n) i else
  if Br L 4 [40] i then (if o < 100 then (P .expr (o+1) (i+1)).bind fun e i=>(Bs L 4 [41] i).bind fun _ i=>.ok e i else .bad (atT L i) 22) else Fp L i
theorem tA (L:List Tk) (n:Nat):∀ (nt:NT) (o i:Nat),pz L (n+1) nt o i=lK L (pz L n) nt o i:=fun nt o i=>by cases nt <;> rfl
theorem Dm {α β:Type} {x x':PR α} {f f':α->Nat->PR β} (h:x.bind f≠.out) (hx:x≠.out->x'=x) (hf:∀ a i,f a i≠.out->f' a i=f a i):x'.bind f'=x.bind f:=by
 cases x with
 | ok a i=>rw [hx (fun e=>nomatch e)];exact hf a i h
 | bad t e=>rw [hx (fun e=>nomatch e)];rfl
 | out=>exact absurd rfl h
theorem tB {L:List Tk} {P Q:NT->Nat->Nat->PR Tr} (U:∀ nt o i,P nt o i≠.out->Q nt o i=P nt o i):∀ (nt:NT) (o i:Nat),lK L P nt o i≠.out->lK L Q nt o i=lK L P nt o i:=fun nt o i h=>by
 have K:∀ {α:Type} {x:PR α},x≠.out->x=x:=fun _=>rfl;have R:∀ {α β:Type} (f:α->Nat->PR β) (a:α) (i:Nat),f a i≠.out->f a i=f a i:=fun _ _ _ _=>rfl;cases nt with
 | expr=>
  dsimp only [lK] at h |-;by_cases c:Br L 1 [105,102] i=true
  · rw [if_pos c] at h |-
    rw [if_pos c];by_cases d:o < 100
    · rw [if_pos d] at h |-
      rw [if_pos d];exact Dm h (U _ _ _) fun a i h=>Dm h (fun _=>rfl) fun _ i h=>Dm h (U _ _ _) fun b i h=>Dm h (fun _=>rfl) fun _ i h=>Dm h (U _ _ _) (R _)
    · rw [if_neg d,if_neg d]
  · rw [if_neg c] at h |-
    rw [if_neg c];exact U _ _ _ h
 | chain b=>exact Dm h (U _ _ _) fun a i h=>U _ _ _ h
 | chainL b acc=>
  dsimp only [lK] at h |-;by_cases c:Br L 1 (MZ b) i=true
  · rw [if_pos c] at h |-
    rw [if_pos c];by_cases d:acc.length=8
    · rw [if_pos d,if_pos d]
    · rw [if_neg d] at h |-
      rw [if_neg d];exact Dm h (U _ _ _) fun a i h=>U _ _ _ h
  · rw [if_neg c,if_neg c]
 | not=>
  dsimp only [lK] at h |-;by_cases c:Br L 1 [110,111,116] i=true
  · rw [if_pos c] at h |-
    rw [if_pos c];by_cases d:o < 100
    · rw [if_pos d] at h |-
      rw [if_pos d];exact Dm h (U _ _ _) (R _)
    · rw [if_neg d,if_neg d]
  · rw [if_neg c] at h |-
    rw [if_neg c];exact U _ _ _ h
 | cmp=>
  refine Dm h (U _ _ _) fun a i h=>?_;cases c:C0 L 4 i GF 0 with
  | none=>rfl
  | some k=>
   rw [c] at h;exact Dm h (U _ _ _) (R _)
 | sum=>exact Dm h (U _ _ _) fun a i h=>U _ _ _ h
 | sumL e=>
  dsimp only [lK] at h |-;by_cases c:Br L 4 [43] i=true
  · rw [if_pos c] at h |-
    rw [if_pos c];exact Dm h (U _ _ _) fun a i h=>U _ _ _ h
  · rw [if_neg c] at h |-
    rw [if_neg c];by_cases d:Br L 4 [45] i=true
    · rw [if_pos d] at h |-
      rw [if_pos d];exact Dm h (U _ _ _) fun a i h=>U _ _ _ h
    · rw [if_neg d,if_neg d]
 | prod=>exact Dm h (U _ _ _) fun a i h=>U _ _ _ h
 | prodL e=>
  dsimp only [lK] at h |-;by_cases c:Br L 4 [42] i=true
  · rw [if_pos c] at h |-
    rw [if_pos c];exact Dm h (U _ _ _) fun a i h=>U _ _ _ h
  · rw [if_neg c,if_neg c]
 | un=>
  dsimp only [lK] at h |-;by_cases c:Br L 4 [45] i=true
  · rw [if_pos c] at h |-
    rw [if_pos c];by_cases d:Cx L (i+1)=true
    · rw [if_pos d,if_pos d]
    · rw [if_neg d] at h |-
      rw [if_neg d];by_cases d:o < 100
      · rw [if_pos d] at h |-
        rw [if_pos d];exact Dm h (U _ _ _) (R _)
      · rw [if_neg d,if_neg d]
  · rw [if_neg c] at h |-
    rw [if_neg c];exact U _ _ _ h
 | prim=>
  dsimp only [lK] at h |-;by_cases c1:Cx L i=true
  · rw [if_pos c1,if_pos c1]
  rw [if_neg c1] at h |-;rw [if_neg c1];by_cases c2:(tokAt L i).1=2
  · rw [if_pos c2,if_pos c2]
  rw [if_neg c2] at h |-;rw [if_neg c2];by_cases c3:(tokAt L i).1=3
  · rw [if_pos c3,if_pos c3]
  rw [if_neg c3] at h |-;rw [if_neg c3];by_cases c4:Br L 4 [35] i=true
  · rw [if_pos c4,if_pos c4]
  rw [if_neg c4] at h |-;rw [if_neg c4];by_cases c5:Br L 4 [40] i=true
  · rw [if_pos c5] at h |-
    rw [if_pos c5];by_cases d:o < 100
    · rw [if_pos d] at h |-
      rw [if_pos d];exact Dm h (U _ _ _) (R _)
    · rw [if_neg d,if_neg d]
  · rw [if_neg c5,if_neg c5]
theorem qS {L:List Tk}:∀ (n:Nat) (nt:NT) (o i:Nat),pz L n nt o i≠.out->pz L (n+1) nt o i=pz L n nt o i
 | 0,_,_,_,h=>absurd rfl h
 | n+1,nt,o,i,h=>by
  rw [tA L n] at h;rw [tA L (n+1),tA L n];exact tB (fun nt o i h=>qS n nt o i h) nt o i h
theorem qT {L:List Tk} {n:Nat} {nt:NT} {o i:Nat} (h:pz L n nt o i≠.out):∀ k,pz L (n+k) nt o i=pz L n nt o i
 | 0=>rfl
 | k+1=>by
  have ih:=qT h k;rw [<- Nat.add_assoc,qS (n+k) nt o i (by rw [ih];exact h),ih]
theorem xw {L:List Tk} (hT:TokOK L) {i j:Nat} {e:Tr} (hi:i < L.length) (h:Rd L .expr 0 i e j):pz L (ZA L) .expr 0 i=.ok e j:=by
 obtain ⟨m,h⟩:=h;have ho:=kb hT (ZA L) .expr 0 i hi (by show 12 * (L.length - i)+10<=12 * L.length+10;omega);have h1:=qT ho m;rw [<- h1];exact h _ (by omega)
def OS (k:Ky):List KT:=[(2,Aa3 k.1),(4,[46]),(1,k.2.1),(4,[46]),(1,k.2.2)]
theorem dN {n:Int} {a b:List UInt8} (h:Um n a b=0):(1<=n/\n<=250)/\BQ a=true/\BQ b=true:=by
 unfold Um at h;cases c:YW n with
 | false=>rw [c] at h;cases h
 | true=>
  have c:=of_decide_eq_true c;refine ⟨c,?_⟩;cases x:BQ a with
  | false=>rw [x] at h;simp [YW,c] at h
  | true=>
   cases y:BQ b with
   | false=>rw [x,y] at h;simp [YW,c] at h
   | true=>exact ⟨rfl,rfl⟩
theorem NF {L:List Tk} {i:Nat} {r:List KT} {k:Ky} (By:Dq L i (OS k++r)) (h:(1<=k.1/\k.1<=250)/\BQ k.2.1=true/\BQ k.2.2=true):Eb L i=.ok k (i+5):=by
 obtain ⟨n,x,y⟩:=k;obtain ⟨⟨h1,h2⟩,hx,hy⟩:=h;simp only at h1 h2 hx hy;have e3:=(Ju (n:=n) (by omega)).2;have a0:Dq L i ((2,Aa3 n) :: (4,[46]) :: (1,x) :: (4,[46]) :: (1,y) :: r):=By;have a1:=A7 a0;have a2:=A7 a1;have a3:=A7 a2;have a4:=A7 a3;unfold Eb;rw [OQ a0 (by omega) (by omega),A1,CF a1,A1,GM a2 hx,A1,CF a3,A1,GM a4 hy,A1,e3]
theorem QH {k:Ky} (h:(1<=k.1/\k.1<=250)/\BQ k.2.1=true/\BQ k.2.2=true):Lx (E8 k.1 k.2.1 k.2.2) (OS k):=by
 obtain ⟨n,x,y⟩:=k;obtain ⟨⟨h1,h2⟩,hx,hy⟩:=h;simp only at h1 h2 hx hy;obtain ⟨e2,e3⟩:=Ju (n:=n) (by omega);have ht:E8 n x y=Aa3 n++([46]++(x++([46]++y))):=by unfold E8 cat;simp
 show Lx (E8 n x y) _;rw [ht];exact Da (Jr e2) (Ee (FQ (c:=46) (by decide)) (Da (CE (FC hx)) (Ee (FQ (c:=46) (by decide)) (CE (FC hy))) rfl)) rfl
def RTg (w:List UInt8) (t:Tg):Prop:=∃ ts,Lx w ts/\∀ (L:List Tk) (i:Nat) (r:List KT),Dq L i (ts++(4,[59]) :: r)->BI L i=.ok t (i+ts.length)
theorem ts0 {t:Tg} (h:YX t=false):(t.key=zK\/t.k=1)/\(t.ev=zK\/t.k=2)/\(t.nm=[]\/t.k=4)/\(t.n=0\/t.k=3\/t.k=6)/\(t.m=0\/t.k=3):=by
 obtain ⟨k,⟨d,c,a⟩,⟨d',c',a'⟩,nm,n,m⟩:=t;simp only [YX,oC,ED,Aaj,Aad,Aak,Aaq,Aa2,beq_iff_eq,bne_eq_false_iff_eq] at h;obtain ⟨⟨⟨⟨h1,h2⟩,h3⟩,h4⟩,h5⟩:=h;refine ⟨?_,?_,h3,h4,h5⟩
 · rcases h1 with ⟨⟨rfl,rfl⟩,rfl⟩ | h
   · exact .inl rfl
   · exact .inr h
 · rcases h2 with ⟨⟨rfl,rfl⟩,rfl⟩ | h
   · exact .inl rfl
   · exact .inr h
theorem xy {t:Tg} (h:NM t=0):RTg (Ta t) t:=by
 have hk:1<=t.k/\t.k<=6/\YX t=false:=by
  unfold NM at h;by_cases c:t.k < 1\/6 < t.k
  · rw [if_pos c] at h;cases h
  · rw [if_neg c] at h
    cases x:YX t with
    | true=>rw [x,if_pos rfl] at h;cases h
    | false=>exact ⟨by omega,by omega,rfl⟩
 obtain ⟨k1,k6,hs⟩:=hk;have z:=ts0 hs;unfold NM at h;rw [if_neg (by omega),hs,if_neg (by decide)] at h;clear hs;obtain ⟨k,key,ev,nm,n,m⟩:=t;simp only at h z k1 k6;obtain ⟨z1,z2,z3,z4,z5⟩:=z;have hk:k=1\/k=2\/k=3\/k=4\/k=5\/k=6:=by omega
 rcases hk with rfl | rfl | rfl | rfl | rfl | rfl
 · obtain rfl:=z2.resolve_right (by decide);obtain rfl:=z3.resolve_right (by decide);obtain rfl:=z4.resolve_right (by decide);obtain rfl:=z5.resolve_right (by decide)
   have hv:=dN (by rw [if_pos rfl] at h;exact h);refine ⟨(1,[99,104,97,110,103,101]) :: OS key,B9 (w:=[99,104,97,110,103,101]) (by decide) (QH hv),fun L i r By=>?_⟩;have h0:Dq L i ((1,[99,104,97,110,103,101]) :: (OS key++(4,[59]) :: r)):=By;unfold BI;rw [CT h0,if_pos rfl,NF (A7 h0) hv,A1];rfl
 · obtain rfl:=z1.resolve_right (by decide);obtain rfl:=z3.resolve_right (by decide);obtain rfl:=z4.resolve_right (by decide);obtain rfl:=z5.resolve_right (by decide)
   have hv:=dN (by rw [if_neg (by decide),if_pos rfl] at h;exact h);refine ⟨(1,[101,118,101,110,116]) :: OS ev,B9 (w:=[101,118,101,110,116]) (by decide) (QH hv),fun L i r By=>?_⟩;have h0:Dq L i ((1,[101,118,101,110,116]) :: (OS ev++(4,[59]) :: r)):=By;unfold BI;rw [A2 h0,A2 h0,if_neg (by decide),if_pos (by decide),NF (A7 h0) hv,A1];rfl
 · obtain rfl:=z1.resolve_right (by decide);obtain rfl:=z2.resolve_right (by decide);obtain rfl:=z3.resolve_right (by decide)
   have hr:0<=n/\n < 1440/\1<=m/\m<=127:=by
    rw [if_neg (by decide),if_neg (by decide),if_pos rfl] at h;by_cases c:0<=n/\n < 1440/\1<=m/\m<=127
    · exact c
    · rw [if_neg c] at h;cases h
   have en:((n.toNat:Nat):Int)=n:=by omega
   by_cases c:m=127
   · subst c
     have e:Ta ⟨3,zK,zK,[],n,127⟩=[116,105,109,101]++32 :: FL n.toNat:=rfl;rw [e];refine ⟨(1,[116,105,109,101]) :: Up n.toNat,B9 (by decide) (W6 (by omega)),fun L i r By=>?_⟩;have h0:Dq L i ((1,[116,105,109,101]) :: (Up n.toNat++(4,[59]) :: r)):=By;have h1:=A7 h0;have h2:Dq L (i+1+3) ((4,[59]) :: r):=BN h1;have hd:Br L 1 [100,97,121,115] (i+1+3)=false:=by rw [Ga h2];rfl
     unfold BI;rw [A2 h0,A2 h0,A2 h0,if_neg (by decide),if_neg (by decide),if_pos (by decide),W4 h1 (by omega),A1,hd,if_neg (by decide),en];rfl
   · have e:Ta ⟨3,zK,zK,[],n,m⟩=[116,105,109,101]++32 :: (FL n.toNat++32 :: ([100,97,121,115]++32 :: WI m.toNat bc)):=by
      show (if m=127 then _ else cat (cat (cat [116,105,109,101,32] (FL n.toNat)) [32]) (P7 m.toNat))=_;rw [if_neg c];unfold cat P7;simp
     rw [e];have em:((m.toNat:Nat):Int)=m:=by omega
     refine ⟨(1,[116,105,109,101]) :: (Up n.toNat++(1,[100,97,121,115]) :: OR m.toNat Cw),B9 (by decide) (Da (W6 (by omega)) (IM (B9 (by decide) (QE bc m.toNat (by decide) (by omega) (by show m.toNat < 128;omega)))) rfl),fun L i r By=>?_⟩;have h0:Dq L i ((1,[116,105,109,101]) :: (Up n.toNat++((1,[100,97,121,115]) :: (OR m.toNat Cw++(4,[59]) :: r)))):=by simpa using By
     have h1:=A7 h0;have h2:Dq L (i+1+3) _:=BN h1;have h3:=A7 h2;have hu:=Y7 ⟨m.toNat,by omega⟩;simp only at hu;have h4:=QF Cw 0 m.toNat 0 (L.length+1) (i+1+3+1) _ Y8 (by omega) (by show m.toNat < 128;omega) (by have:=dL h3;omega) h3 (by decide:Ly (4,[59]) < 8);rw [hu] at h4;unfold BI Kq;rw [A2 h0,A2 h0,A2 h0,if_neg (by decide),if_neg (by decide),if_pos (by decide),W4 h1 (by omega),A1,CT h2,if_pos rfl,h4,A1,en,em];exact GG (by simp only [Aa1,Aa4];show _=i+(3+_+1);omega)
 · obtain rfl:=z1.resolve_right (by decide);obtain rfl:=z2.resolve_right (by decide);obtain rfl:=z4.resolve_right (by decide);obtain rfl:=z5.resolve_right (by decide)
   rw [if_neg (by decide),if_neg (by decide),if_neg (by decide),if_pos rfl] at h;by_cases c:nm=[]
   · subst c
     refine ⟨[(1,[109,111,100,101])],CE (w:=[109,111,100,101]) (by decide),fun L i r By=>?_⟩;have h0:Dq L i ((1,[109,111,100,101]) :: (4,[59]) :: r):=By;have hk:(tokAt L (i+1)).1=4:=EP (A7 h0);unfold BI;rw [A2 h0,A2 h0,A2 h0,A2 h0,if_neg (by decide),if_neg (by decide),if_neg (by decide),if_pos (by decide),if_neg (by omega)];rfl
   · have hv:BQ nm=true:=by
      by_cases x:nm=[]\/BQ nm=true
      · exact x.resolve_left c
      · rw [if_neg x] at h;cases h
     have e:Ta ⟨4,zK,zK,nm,0,0⟩=[109,111,100,101]++32 :: nm:=by
      show (if nm=[] then _ else cat [109,111,100,101,32] nm)=_;rw [if_neg c];rfl
     rw [e];refine ⟨[(1,[109,111,100,101]),(1,nm)],B9 (by decide) (CE (FC hv)),fun L i r By=>?_⟩;have h0:Dq L i ((1,[109,111,100,101]) :: (1,nm) :: (4,[59]) :: r):=By;have hk:(tokAt L (i+1)).1=1:=EP (A7 h0);unfold BI;rw [A2 h0,A2 h0,A2 h0,A2 h0,if_neg (by decide),if_neg (by decide),if_neg (by decide),if_pos (by decide),if_pos hk,GM (A7 h0) hv,A1];rfl
 · obtain rfl:=z1.resolve_right (by decide);obtain rfl:=z2.resolve_right (by decide);obtain rfl:=z3.resolve_right (by decide);obtain rfl:=z4.resolve_right (by decide);obtain rfl:=z5.resolve_right (by decide)
   refine ⟨[(1,[115,116,97,114,116])],CE (w:=[115,116,97,114,116]) (by decide),fun L i r By=>?_⟩;have h0:Dq L i ((1,[115,116,97,114,116]) :: (4,[59]) :: r):=By;unfold BI;rw [A2 h0,A2 h0,A2 h0,A2 h0,A2 h0,if_neg (by decide),if_neg (by decide),if_neg (by decide),if_neg (by decide),if_pos (by decide)];rfl
 · obtain rfl:=z1.resolve_right (by decide);obtain rfl:=z2.resolve_right (by decide);obtain rfl:=z3.resolve_right (by decide);obtain rfl:=z5.resolve_right (by decide)
   have hr:0<=n/\n<=1099511627776:=by
    rw [if_neg (by decide),if_neg (by decide),if_neg (by decide),if_neg (by decide),if_pos rfl] at h;by_cases c:0<=n/\n<=1099511627776
    · exact c
    · rw [if_neg c] at h;cases h
   obtain ⟨e2,e3⟩:=Ju hr.1;refine ⟨[(1,[104,111,108,100]),(2,Aa3 n)],B9 (w:=[104,111,108,100]) (by decide) (Jr e2),fun L i r By=>?_⟩;have h0:Dq L i ((1,[104,111,108,100]) :: (2,Aa3 n) :: (4,[59]) :: r):=By;unfold BI;rw [A2 h0,A2 h0,A2 h0,A2 h0,A2 h0,if_neg (by decide),if_neg (by decide),if_neg (by decide),if_neg (by decide),if_neg (by decide),CF h0,A1,OQ (A7 h0) (Aas _) (by omega),A1,e3];rfl
set_option maxHeartbeats 4000000
theorem tC {L:List Tk} {i:Nat} {ts r:List KT} (h:Dq L i (ts++r)) (hn:ts≠[]):i < L.length:=by
 unfold Dq at h;have e:((L.drop i).map kt).length=(ts++r).length:=by rw [h]
 have:=List.length_pos_iff.2 hn;rw [Aab,Aam,Aa4] at e;omega
theorem lL {e:Tr} (hc:Km e=0):∃ ts,Lx (EN (an e) 0) ts/\∀ (L:List Tk),TokOK L->∀ (i:Nat) (r:List KT),Dq L i (ts++r)->Ly (Js r) < 1->D0 L (ZA L) i=.ok e (i+ts.length):=by
 obtain ⟨ts,x1,x2,x3,_⟩:=SP (xu hc) 0 0 rfl (by decide);refine ⟨ts,x1,fun L hT i r By hl=>?_⟩;have hp:=xw hT (tC By x3.1) (x2 L 0 i r By (by decide) hl);unfold D0;rw [hp,A1,if_pos hc]
theorem qU {t:Tr} (h:cZ t=true):t=zT:=by
 obtain ⟨k,n,m,nm,⟨v1,v2,v3⟩,⟨y1,y2,y3⟩,kids⟩:=t;simp only [cZ,aS,Ra,ED,Aa2,beq_iff_eq] at h;obtain ⟨⟨⟨⟨⟨⟨rfl,rfl⟩,rfl⟩,rfl⟩,⟨rfl,rfl⟩,rfl⟩,⟨rfl,rfl⟩,rfl⟩,h⟩:=h;rw [Aa0.1 h];rfl
theorem tD {t:Tr} (h:Sv t=true):t=wT:=by
 obtain ⟨k,n,m,nm,⟨v1,v2,v3⟩,⟨y1,y2,y3⟩,kids⟩:=t;simp only [Sv,aS,Ra,ED,Aa2,beq_iff_eq] at h;obtain ⟨⟨⟨⟨⟨⟨rfl,rfl⟩,rfl⟩,rfl⟩,⟨rfl,rfl⟩,rfl⟩,⟨rfl,rfl⟩,rfl⟩,h⟩:=h;rw [Aa0.1 h];rfl
theorem xz {k:Ky} (h:ED k (0,[],[])=true):k=zK:=by
 obtain ⟨a,b,c⟩:=k;simp only [ED,Aa2,beq_iff_eq] at h;obtain ⟨⟨rfl,rfl⟩,rfl⟩:=h;rfl
def zU (ts:List KT) (s:Sp):Prop:=∀ (L:List Tk),TokOK L->∀ (i:Nat) (r:List KT),Dq L i (ts++(4,[59]) :: r)->DV L (ZA L) i=.ok s (i+ts.length)
theorem xA {s:Sp} (h:Qd s=0):∃ ts,Lx (Vq s) ts/\zU ts s:=by
 unfold Qd at h;unfold Vq zU;obtain ⟨k,key,nm,ex⟩:=s;simp only at h |-;by_cases k1:k=1
 · subst k1
   rw [if_pos rfl] at h |-;by_cases c1:nm≠[]
   · rw [if_pos c1] at h;cases h
   rw [if_neg c1] at h;have c1:=Aa6 c1;subst c1;by_cases c2:Um key.1 key.2.1 key.2.2≠0
   · rw [if_pos c2] at h;exact absurd h c2
   rw [if_neg c2] at h;have hv:=dN (Aa6 c2);obtain ⟨ts,x1,x2⟩:=lL h;have e:cat (cat (cat [115,101,116,32] (E8 key.1 key.2.1 key.2.2)) [32,61,32]) (EN (an ex) 0)=[115,101,116]++32 :: (E8 key.1 key.2.1 key.2.2++(32 :: ([61]++32 :: EN (an ex) 0))):=by unfold cat;simp
   rw [e];refine ⟨(1,[115,101,116]) :: (OS key++(4,[61]) :: ts),B9 (by decide) (Da (QH hv) (IM (Da (qP (c:=61) (by decide)) (IM x1) rfl)) rfl),fun L hT i r By=>?_⟩;have h0:Dq L i ((1,[115,101,116]) :: (OS key++((4,[61]) :: (ts++(4,[59]) :: r)))):=by simpa using By
   have h1:=A7 h0;have h2:Dq L (i+1+5) _:=BN h1;unfold DV;rw [CT h0,if_pos rfl,NF h1 hv,A1,CF h2,A1,x2 L hT _ _ (A7 h2) (by decide:Ly (4,[59]) < 1),A1];exact GG (by simp only [Aa1,Aa4];show _=i+(5+_+1);omega)
 rw [if_neg k1] at h;rw [if_neg k1];by_cases k2:k=2
 · subst k2
   rw [if_pos rfl] at h;rw [if_pos rfl];by_cases c1:key.2.2≠[]
   · rw [if_pos c1] at h;cases h
   rw [if_neg c1] at h;have c1:=Aa6 c1;obtain ⟨d,cl,at_⟩:=key;simp only at c1 h |-;subst c1;by_cases c2:Um d cl nm≠0
   · rw [if_pos c2] at h;exact absurd h c2
   rw [if_neg c2] at h;have hv:(1<=((d,cl,nm):Ky).1/\((d,cl,nm):Ky).1<=250)/\BQ ((d,cl,nm):Ky).2.1=true/\BQ ((d,cl,nm):Ky).2.2=true:=dN (Aa6 c2);have Xw:Lx (E8 d cl nm) (OS (d,cl,nm)):=QH (k:=(d,cl,nm)) hv;by_cases c3:cZ ex=true
   · rw [if_pos c3]
     obtain rfl:=qU c3;refine ⟨(1,[99,97,108,108]) :: OS (d,cl,nm),B9 (w:=[99,97,108,108]) (by decide) Xw,fun L hT i r By=>?_⟩;have h0:Dq L i ((1,[99,97,108,108]) :: (OS (d,cl,nm)++(4,[59]) :: r)):=By;have h1:=A7 h0;have h2:Dq L (i+1+5) _:=BN h1;have hp:Br L 4 [40] (i+1+5)=false:=by rw [Ga h2];rfl
     unfold DV;rw [A2 h0,A2 h0,if_neg (by decide),if_pos (by decide),NF h1 hv,A1,hp,if_neg (by decide)];rfl
   · rw [if_neg c3]
     rw [if_neg c3] at h;obtain ⟨ts,x1,x2⟩:=lL h;have e:cat (cat (cat (cat [99,97,108,108,32] (E8 d cl nm)) [40]) (EN (an ex) 0)) [41]=[99,97,108,108]++32 :: (E8 d cl nm++([40]++(EN (an ex) 0++[41]))):=by unfold cat;simp
     rw [e];refine ⟨(1,[99,97,108,108]) :: (OS (d,cl,nm)++(4,[40]) :: (ts++[(4,[41])])),B9 (by decide) (Da Xw (Ee (FQ (c:=40) (by decide)) (Da x1 (FQ (c:=41) (by decide)).lx rfl)) rfl),fun L hT i r By=>?_⟩;have h0:Dq L i ((1,[99,97,108,108]) :: (OS (d,cl,nm)++((4,[40]) :: (ts++((4,[41]) :: (4,[59]) :: r))))):=by simpa using By
     have h1:=A7 h0;have h2:Dq L (i+1+5) _:=BN h1;have h3:=A7 h2;have h4:=BN h3;unfold DV;rw [A2 h0,A2 h0,if_neg (by decide),if_pos (by decide),NF h1 hv,A1,CT h2,if_pos rfl,x2 L hT _ _ h3 (by decide:Ly (4,[41]) < 1),A1,CF h4,A1];exact GG (by simp only [Aa1,Aa4,List.length_nil];show _=i+(5+_+1);omega)
 rw [if_neg k2] at h;rw [if_neg k2];by_cases k345:k=3\/k=4\/k=5
 · rw [if_pos k345] at h
   by_cases c1:ED key (0,[],[])=false\/cZ ex=false
   · rw [if_pos c1] at h;cases h
   rw [if_neg c1] at h
   have hkey:key=zK:=xz (by
    cases x:ED key (0,[],[]) with
    | true=>rfl
    | false=>exact absurd (.inl x) c1)
   have hex:ex=zT:=qU (by
    cases x:cZ ex with
    | true=>rfl
    | false=>exact absurd (.inr x) c1)
   subst hkey hex;by_cases k5:k=5
   · subst k5
     rw [if_neg (by decide),if_neg (by decide)];rw [if_pos rfl] at h
     have uR:nm.length<=60:=by
      by_cases c:60 < nm.length
      · rw [if_pos c] at h;cases h
      · omega
     refine ⟨[(1,[110,111,116,105,102,121]),(3,nm)],B9 (w:=[110,111,116,105,102,121]) (by decide) (lq uR).lx,fun L hT i r By=>?_⟩;have h0:Dq L i ((1,[110,111,116,105,102,121]) :: (3,nm) :: (4,[59]) :: r):=By;have h1:=A7 h0;have hk:(tokAt L (i+1)).1=3:=EP h1;have ht:(tokAt L (i+1)).2.1=nm:=Mm h1;unfold DV;rw [A2 h0,A2 h0,A2 h0,A2 h0,if_neg (by decide),if_neg (by decide),if_neg (by decide),if_neg (by decide),CF h0,A1];unfold Oh;rw [if_pos hk,A1,ht];rfl
   · rw [if_neg k5] at h
     have hv:BQ nm=true:=by
      cases x:BQ nm with
      | true=>rfl
      | false=>rw [x] at h;cases h
     by_cases k3:k=3
     · subst k3
       rw [if_pos rfl];refine ⟨[(1,[115,99,101,110,101]),(1,nm)],B9 (w:=[115,99,101,110,101]) (by decide) (CE (FC hv)),fun L hT i r By=>?_⟩;have h0:Dq L i ((1,[115,99,101,110,101]) :: (1,nm) :: (4,[59]) :: r):=By;unfold DV;rw [A2 h0,A2 h0,A2 h0,if_neg (by decide),if_neg (by decide),if_pos (by decide),GM (A7 h0) hv,A1];rfl
     · have k4:k=4:=by omega
       subst k4;rw [if_neg k3,if_pos rfl];refine ⟨[(1,[109,111,100,101]),(1,nm)],B9 (w:=[109,111,100,101]) (by decide) (CE (FC hv)),fun L hT i r By=>?_⟩;have h0:Dq L i ((1,[109,111,100,101]) :: (1,nm) :: (4,[59]) :: r):=By;unfold DV;rw [A2 h0,A2 h0,A2 h0,A2 h0,if_neg (by decide),if_neg (by decide),if_neg (by decide),if_pos (by decide),GM (A7 h0) hv,A1];rfl
 · rw [if_neg k345] at h;cases h
def Ib {α:Type} (w:List UInt8):List (List KT×α)->List KT
 | []=>[]
 | x :: r=>(1,w) :: (x.1++(4,[59]) :: Ib w r)
theorem bF {α:Type} {L:List Tk} {w:List UInt8} {part:Nat->PR α}:∀ (ks:List (List KT×α)) (acc:List α) (n i:Nat) (q:List KT),(∀ x ∈ ks,∀ (i:Nat) (r:List KT),Dq L i (x.1++(4,[59]) :: r)->part i=.ok x.2 (i+x.1.length)) ->
 acc.length+ks.length<=8->(acc.length=0->ks≠[])->ks.length < n->Dq L i (Ib w ks++q)->Js q≠(1,w)->Bw L w part n acc i=.ok (acc++ks.map (·.2)) (i+(Ib w ks).length)
 | [],acc,n,i,q,_,_,h0,hn,By,hq=>by
  obtain ⟨n,rfl⟩:∃ x,n=x+1:=⟨n - 1,by simp at hn;omega⟩;have Dz:acc.length≠0:=fun e=>h0 e rfl
  have hw:Br L 1 w i=false:=by
   have By:Dq L i q:=By;rw [Ga By,Aad,beq_eq_false_iff_ne,beq_eq_false_iff_ne];refine Decidable.or_iff_not_imp_left.2 fun h1 h2=>hq (Prod.ext (Aa6 h1) h2)
  unfold Bw;rw [hw,if_neg (by intro h;rcases h with h | h;exact Dz h;cases h),List.map_nil,Aap];rfl
 | (A,a) :: ks,acc,n,i,q,hp,h8,h0,hn,By,hq=>by
  rw [Aa1] at h8 hn;obtain ⟨n,rfl⟩:∃ x,n=x+1:=⟨n - 1,by omega⟩;have e0:Dq L i ((1,w) :: (A++((4,[59]) :: (Ib w ks++q)))):=by simpa [Ib] using By
  have e1:=A7 e0;have e2:=BN e1;have ih:=bF ks (acc++[a]) n _ q (fun x hx=>hp x (by simp [hx])) (by rw [Aa4,Aac];omega) (fun h=>by rw [Aa4,Aac] at h;omega) (by omega) (A7 e2) hq;unfold Bw;rw [CT e0,if_pos (.inr rfl),if_neg (by omega),CF e0,A1,hp (A,a) (by simp) _ _ e1,A1,CF e2,A1,ih,Aa9,Aal];exact GG (by show _=i+((1,w) :: (A++(4,[59]) :: Ib w ks)).length;simp only [Aa1,Aa4];omega)
theorem W8 {α:Type} {S:α->List UInt8} {P:List KT->α->Prop}:∀ {l:List α},(∀ x ∈ l,∃ ts,Lx (S x) ts/\P ts x)->∃ ks:List (List KT×α),ks.map (·.2)=l/\∀ y ∈ ks,Lx (S y.2) y.1/\P y.1 y.2
 | [],_=>⟨[],rfl,fun _ h=>(by cases h)⟩
 | x :: l,h=>by
  obtain ⟨ts,t1,t2⟩:=h x (by simp);obtain ⟨ks,k1,k2⟩:=W8 (l:=l) fun x hx=>h x (by simp [hx]);refine ⟨(ts,x) :: ks,by rw [Aa9,k1],fun y hy=>?_⟩;rcases Aae.1 hy with rfl | hy
  · exact ⟨t1,t2⟩
  · exact k2 y hy
theorem dO {w S:List UInt8} {ts:List KT} {rest:List UInt8} {B:List KT} (hw:Pj w=true) (hS:Lx S ts) (hr:Lx rest B):Lx (cat (cat (32 :: 32 :: (w++[32])) S) [59,10]++rest) ((1,w) :: (ts++(4,[59]) :: B)):=by
 have e:cat (cat (32 :: 32 :: (w++[32])) S) [59,10]++rest=32 :: 32 :: (w++32 :: (S++([59]++([10]++rest)))):=by unfold cat;simp
 rw [e];exact IM (IM (B9 hw (Da hS (Ee (FQ (c:=59) (by decide)) (Ee (dH (c:=10) rfl) hr)) rfl)))
theorem bG {α:Type} {w:List UInt8} {S:α->List UInt8} {rest:List UInt8} {B:List KT} (hw:Pj w=true) (hr:Lx rest B):∀ (ks:List (List KT×α)),(∀ y ∈ ks,Lx (S y.2) y.1)->Lx ((ks.map (·.2)).flatMap (fun x=>cat (cat (32 :: 32 :: (w++[32])) (S x)) [59,10])++rest) (Ib w ks++B)
 | [],_=>hr
 | (A,a) :: ks,h=>by
  have ih:=bG hw hr ks fun y hy=>h y (by simp [hy]);have:=dO hw (h (A,a) (by simp)) ih;have e:Ib w ((A,a) :: ks)++B=(1,w) :: (A++(4,[59]) :: (Ib w ks++B)):=by simp [Ib]
  rw [e,Aa9,List.flatMap_cons,Aal];exact this
end Go.HH
