/-
  What the law needs, packed: SJ SK LM P1 P2 LN SN SO.
-/
import Derived.Test.YthjcaihemgllaaaGreatDoorK49
open List renaming getElem?_append_right->Aau,length_append->Aav,set_cons_zero->Aay,set_cons_succ->Aaz,length_cons->Ab0,nil_append->Ab2,length_map->Ab7,append_assoc->Aba,cons_append->Abc,length_singleton->Abd,getElem?_map->Abi,flatMap_cons->Abj,length_nil->Abm,append_nil->Abn,getElem?_append_left->Abo,map_cons->Abp,length_eq_zero_iff->Abr,getD_cons_zero->Abt,getElem_mem->Abv,foldlM_cons->Abw,all_eq_true->Abx,foldlM_nil->Abz,drop_zero->Ac1
open Option renaming getD->Aaw
open Nat renaming le_of_ble_eq_true->Aax,sub_self->Abk,add_zero->Ac3,le_refl->Ac4
open Go.Proofs.Tryz renaming f16->Ab1,f54->Ab8,f25->Abb,f28->Abf,f27->Abg,f10->Abh,f26->Abs,prog->Abu,f55->Ac0
open Decidable renaming of_not_not->Ab3
open Bool renaming and_true->Ab4,not_not->Ab5,and_self->Ab6,and_eq_true->Ab9,false_eq_true->Abe,true_and->Abq,false_and->Ac2
open Go.Lib renaming itoa->Abl
open Go.Code renaming loop->Aby
namespace Go.HH
open Go Go.Proofs
set_option maxRecDepth 100000
set_option maxHeartbeats 4000000
set_option linter.unusedSimpArgs false
set_option linter.unusedVariables false
theorem uh {L:List Tk} {i:Nat} {ts r:List KT} (h:Dn L i (ts++r)) (hn:ts≠[]):i < L.length:=by
 unfold Dn at h;have e:((L.drop i).map kt).length=(ts++r).length:=by rw [h]
 have:=List.length_pos_iff.2 hn;rw [Ab7,List.length_drop,Aav] at e;omega
theorem mr {e:Tr} (hc:Mz e=0):∃ ts,Lx (EN (an e) 0) ts/\∀ (L:List Tk),TokOK L->∀ (i:Nat) (r:List KT),Dn L i (ts++r)->LG (JB r) < 1->Ey L (bF L) i=.ok e (i+ts.length):=by
 obtain ⟨ts,x1,x2,x3,_⟩:=Tc (yj hc) 0 0 rfl (by decide);refine ⟨ts,x1,fun L hT i r Bv hl=>?_⟩;have hp:=yk hT (uh Bv x3.1) (x2 L 0 i r Bv (by decide) hl);unfold Ey;rw [hp,A2,if_pos hc]
theorem rK {t:Tr} (h:gB t=true):t=zT:=by
 obtain ⟨k,n,m,nm,⟨v1,v2,v3⟩,⟨y1,y2,y3⟩,kids⟩:=t;simp only [gB,bA,We,Fj,Ab9,beq_iff_eq] at h;obtain ⟨⟨⟨⟨⟨⟨rfl,rfl⟩,rfl⟩,rfl⟩,⟨rfl,rfl⟩,rfl⟩,⟨rfl,rfl⟩,rfl⟩,h⟩:=h;rw [Abr.1 h];rfl
theorem ui {t:Tr} (h:SQ t=true):t=wT:=by
 obtain ⟨k,n,m,nm,⟨v1,v2,v3⟩,⟨y1,y2,y3⟩,kids⟩:=t;simp only [SQ,bA,We,Fj,Ab9,beq_iff_eq] at h;obtain ⟨⟨⟨⟨⟨⟨rfl,rfl⟩,rfl⟩,rfl⟩,⟨rfl,rfl⟩,rfl⟩,⟨rfl,rfl⟩,rfl⟩,h⟩:=h;rw [Abr.1 h];rfl
theorem ym {k:Ky} (h:Fj k (0,[],[])=true):k=zK:=by
 obtain ⟨a,b,c⟩:=k;simp only [Fj,Ab9,beq_iff_eq] at h;obtain ⟨⟨rfl,rfl⟩,rfl⟩:=h;rfl
def PSp (ts:List KT) (s:Sp):Prop:=∀ (L:List Tk),TokOK L->∀ (i:Nat) (r:List KT),Dn L i (ts++(4,[59]) :: r)->Ed L (bF L) i=.ok s (i+ts.length)
theorem yp {s:Sp} (h:Zf s=0):∃ ts,Lx (VE s) ts/\PSp ts s:=by
 unfold Zf at h;unfold VE PSp;obtain ⟨k,key,nm,ex⟩:=s;simp only at h |-;by_cases k1:k=1
 · subst k1
   rw [if_pos rfl] at h |-;by_cases c1:nm≠[]
   · rw [if_pos c1] at h;cases h
   rw [if_neg c1] at h;have c1:=Ab3 c1;subst c1;by_cases c2:Xf key.1 key.2.1 key.2.2≠0
   · rw [if_pos c2] at h;exact absurd h c2
   rw [if_neg c2] at h;have hv:=eB (Ab3 c2);obtain ⟨ts,x1,x2⟩:=mr h;have e:cat (cat (cat [115,101,116,32] (E3 key.1 key.2.1 key.2.2)) [32,61,32]) (EN (an ex) 0)=[115,101,116]++32 :: (E3 key.1 key.2.1 key.2.2++(32 :: ([61]++32 :: EN (an ex) 0))):=by unfold cat;simp
   rw [e];refine ⟨(1,[115,101,116]) :: (O2 key++(4,[61]) :: ts),B9 (by decide) (Da (QT hv) (IZ (Da (rF (c:=61) (by decide)) (IZ x1) rfl)) rfl),fun L hT i r Bv=>?_⟩;have h0:Dn L i ((1,[115,101,116]) :: (O2 key++((4,[61]) :: (ts++(4,[59]) :: r)))):=by simpa using Bv
   have h1:=A9 h0;have h2:Dn L (i+1+5) _:=BN h1;unfold Ed;rw [CT h0,if_pos rfl,NP h1 hv,A2,CH h2,A2,x2 L hT _ _ (A9 h2) (by decide:LG (4,[59]) < 1),A2];exact GH (by simp only [Ab0,Aav];show _=i+(5+_+1);omega)
 rw [if_neg k1] at h;rw [if_neg k1];by_cases k2:k=2
 · subst k2
   rw [if_pos rfl] at h;rw [if_pos rfl];by_cases c1:key.2.2≠[]
   · rw [if_pos c1] at h;cases h
   rw [if_neg c1] at h;have c1:=Ab3 c1;obtain ⟨d,cl,at_⟩:=key;simp only at c1 h |-;subst c1;by_cases c2:Xf d cl nm≠0
   · rw [if_pos c2] at h;exact absurd h c2
   rw [if_neg c2] at h;have hv:(1<=((d,cl,nm):Ky).1/\((d,cl,nm):Ky).1<=250)/\B8 ((d,cl,nm):Ky).2.1=true/\B8 ((d,cl,nm):Ky).2.2=true:=eB (Ab3 c2);have QW:Lx (E3 d cl nm) (O2 (d,cl,nm)):=QT (k:=(d,cl,nm)) hv;by_cases c3:gB ex=true
   · rw [if_pos c3]
     obtain rfl:=rK c3;refine ⟨(1,[99,97,108,108]) :: O2 (d,cl,nm),B9 (w:=[99,97,108,108]) (by decide) QW,fun L hT i r Bv=>?_⟩;have h0:Dn L i ((1,[99,97,108,108]) :: (O2 (d,cl,nm)++(4,[59]) :: r)):=Bv;have h1:=A9 h0;have h2:Dn L (i+1+5) _:=BN h1;have hp:Bs L 4 [40] (i+1+5)=false:=by rw [Gb h2];rfl
     unfold Ed;rw [A3 h0,A3 h0,if_neg (by decide),if_pos (by decide),NP h1 hv,A2,hp,if_neg (by decide)];rfl
   · rw [if_neg c3]
     rw [if_neg c3] at h;obtain ⟨ts,x1,x2⟩:=mr h;have e:cat (cat (cat (cat [99,97,108,108,32] (E3 d cl nm)) [40]) (EN (an ex) 0)) [41]=[99,97,108,108]++32 :: (E3 d cl nm++([40]++(EN (an ex) 0++[41]))):=by unfold cat;simp
     rw [e];refine ⟨(1,[99,97,108,108]) :: (O2 (d,cl,nm)++(4,[40]) :: (ts++[(4,[41])])),B9 (by decide) (Da QW (Ef (FR (c:=40) (by decide)) (Da x1 (FR (c:=41) (by decide)).lx rfl)) rfl),fun L hT i r Bv=>?_⟩;have h0:Dn L i ((1,[99,97,108,108]) :: (O2 (d,cl,nm)++((4,[40]) :: (ts++((4,[41]) :: (4,[59]) :: r))))):=by simpa using Bv
     have h1:=A9 h0;have h2:Dn L (i+1+5) _:=BN h1;have h3:=A9 h2;have h4:=BN h3;unfold Ed;rw [A3 h0,A3 h0,if_neg (by decide),if_pos (by decide),NP h1 hv,A2,CT h2,if_pos rfl,x2 L hT _ _ h3 (by decide:LG (4,[41]) < 1),A2,CH h4,A2];exact GH (by simp only [Ab0,Aav,Abm];show _=i+(5+_+1);omega)
 rw [if_neg k2] at h;rw [if_neg k2];by_cases k345:k=3\/k=4\/k=5
 · rw [if_pos k345] at h
   by_cases c1:Fj key (0,[],[])=false\/gB ex=false
   · rw [if_pos c1] at h;cases h
   rw [if_neg c1] at h
   have hkey:key=zK:=ym (by
    cases x:Fj key (0,[],[]) with
    | true=>rfl
    | false=>exact absurd (.inl x) c1)
   have hex:ex=zT:=rK (by
    cases x:gB ex with
    | true=>rfl
    | false=>exact absurd (.inr x) c1)
   subst hkey hex;by_cases k5:k=5
   · subst k5
     rw [if_neg (by decide),if_neg (by decide)];rw [if_pos rfl] at h
     have vG:nm.length<=60:=by
      by_cases c:60 < nm.length
      · rw [if_pos c] at h;cases h
      · omega
     refine ⟨[(1,[110,111,116,105,102,121]),(3,nm)],B9 (w:=[110,111,116,105,102,121]) (by decide) (l9 vG).lx,fun L hT i r Bv=>?_⟩;have h0:Dn L i ((1,[110,111,116,105,102,121]) :: (3,nm) :: (4,[59]) :: r):=Bv;have h1:=A9 h0;have hk:(tokAt L (i+1)).1=3:=EP h1;have ht:(tokAt L (i+1)).2.1=nm:=Ms h1;unfold Ed;rw [A3 h0,A3 h0,A3 h0,A3 h0,if_neg (by decide),if_neg (by decide),if_neg (by decide),if_neg (by decide),CH h0,A2];unfold P7;rw [if_pos hk,A2,ht];rfl
   · rw [if_neg k5] at h
     have hv:B8 nm=true:=by
      cases x:B8 nm with
      | true=>rfl
      | false=>rw [x] at h;cases h
     by_cases k3:k=3
     · subst k3
       rw [if_pos rfl];refine ⟨[(1,[115,99,101,110,101]),(1,nm)],B9 (w:=[115,99,101,110,101]) (by decide) (CG (FC hv)),fun L hT i r Bv=>?_⟩;have h0:Dn L i ((1,[115,99,101,110,101]) :: (1,nm) :: (4,[59]) :: r):=Bv;unfold Ed;rw [A3 h0,A3 h0,A3 h0,if_neg (by decide),if_neg (by decide),if_pos (by decide),GQ (A9 h0) hv,A2];rfl
     · have k4:k=4:=by omega
       subst k4;rw [if_neg k3,if_pos rfl];refine ⟨[(1,[109,111,100,101]),(1,nm)],B9 (w:=[109,111,100,101]) (by decide) (CG (FC hv)),fun L hT i r Bv=>?_⟩;have h0:Dn L i ((1,[109,111,100,101]) :: (1,nm) :: (4,[59]) :: r):=Bv;unfold Ed;rw [A3 h0,A3 h0,A3 h0,A3 h0,if_neg (by decide),if_neg (by decide),if_neg (by decide),if_pos (by decide),GQ (A9 h0) hv,A2];rfl
 · rw [if_neg k345] at h;cases h
def Ij {α:Type} (w:List UInt8):List (List KT×α)->List KT
 | []=>[]
 | x :: r=>(1,w) :: (x.1++(4,[59]) :: Ij w r)
theorem cd {α:Type} {L:List Tk} {w:List UInt8} {part:Nat->PR α}:∀ (ks:List (List KT×α)) (acc:List α) (n i:Nat) (q:List KT),(∀ x ∈ ks,∀ (i:Nat) (r:List KT),Dn L i (x.1++(4,[59]) :: r)->part i=.ok x.2 (i+x.1.length)) ->
 acc.length+ks.length<=8->(acc.length=0->ks≠[])->ks.length < n->Dn L i (Ij w ks++q)->JB q≠(1,w)->BI L w part n acc i=.ok (acc++ks.map (·.2)) (i+(Ij w ks).length)
 | [],acc,n,i,q,_,_,h0,hn,Bv,hq=>by
  obtain ⟨n,rfl⟩:∃ x,n=x+1:=⟨n - 1,by simp at hn;omega⟩;have Dx:acc.length≠0:=fun e=>h0 e rfl
  have hw:Bs L 1 w i=false:=by
   have Bv:Dn L i q:=Bv;rw [Gb Bv,Bool.and_eq_false_iff,beq_eq_false_iff_ne,beq_eq_false_iff_ne];refine Decidable.or_iff_not_imp_left.2 fun h1 h2=>hq (Prod.ext (Ab3 h1) h2)
  unfold BI;rw [hw,if_neg (by intro h;rcases h with h | h;exact Dx h;cases h),List.map_nil,Abn];rfl
 | (A,a) :: ks,acc,n,i,q,hp,h8,h0,hn,Bv,hq=>by
  rw [Ab0] at h8 hn;obtain ⟨n,rfl⟩:∃ x,n=x+1:=⟨n - 1,by omega⟩;have e0:Dn L i ((1,w) :: (A++((4,[59]) :: (Ij w ks++q)))):=by simpa [Ij] using Bv
  have e1:=A9 e0;have e2:=BN e1;have ih:=cd ks (acc++[a]) n _ q (fun x hx=>hp x (by simp [hx])) (by rw [Aav,Abd];omega) (fun h=>by rw [Aav,Abd] at h;omega) (by omega) (A9 e2) hq;unfold BI;rw [CT e0,if_pos (.inr rfl),if_neg (by omega),CH e0,A2,hp (A,a) (by simp) _ _ e1,A2,CH e2,A2,ih,Abp,Aba];exact GH (by show _=i+((1,w) :: (A++(4,[59]) :: Ij w ks)).length;simp only [Ab0,Aav];omega)
theorem Xq {α:Type} {S:α->List UInt8} {P:List KT->α->Prop}:∀ {l:List α},(∀ x ∈ l,∃ ts,Lx (S x) ts/\P ts x)->∃ ks:List (List KT×α),ks.map (·.2)=l/\∀ y ∈ ks,Lx (S y.2) y.1/\P y.1 y.2
 | [],_=>⟨[],rfl,fun _ h=>(by cases h)⟩
 | x :: l,h=>by
  obtain ⟨ts,t1,t2⟩:=h x (by simp);obtain ⟨ks,k1,k2⟩:=Xq (l:=l) fun x hx=>h x (by simp [hx]);refine ⟨(ts,x) :: ks,by rw [Abp,k1],fun y hy=>?_⟩;rcases List.mem_cons.1 hy with rfl | hy
  · exact ⟨t1,t2⟩
  · exact k2 y hy
theorem eC {w S:List UInt8} {ts:List KT} {rest:List UInt8} {B:List KT} (hw:Pw w=true) (hS:Lx S ts) (hr:Lx rest B):Lx (cat (cat (32 :: 32 :: (w++[32])) S) [59,10]++rest) ((1,w) :: (ts++(4,[59]) :: B)):=by
 have e:cat (cat (32 :: 32 :: (w++[32])) S) [59,10]++rest=32 :: 32 :: (w++32 :: (S++([59]++([10]++rest)))):=by unfold cat;simp
 rw [e];exact IZ (IZ (B9 hw (Da hS (Ef (FR (c:=59) (by decide)) (Ef (ej (c:=10) rfl) hr)) rfl)))
theorem cf {α:Type} {w:List UInt8} {S:α->List UInt8} {rest:List UInt8} {B:List KT} (hw:Pw w=true) (hr:Lx rest B):∀ (ks:List (List KT×α)),(∀ y ∈ ks,Lx (S y.2) y.1)->Lx ((ks.map (·.2)).flatMap (fun x=>cat (cat (32 :: 32 :: (w++[32])) (S x)) [59,10])++rest) (Ij w ks++B)
 | [],_=>hr
 | (A,a) :: ks,h=>by
  have ih:=cf hw hr ks fun y hy=>h y (by simp [hy]);have:=eC hw (h (A,a) (by simp)) ih;have e:Ij w ((A,a) :: ks)++B=(1,w) :: (A++(4,[59]) :: (Ij w ks++B)):=by simp [Ij]
  rw [e,Abp,Abj,Aba];exact this
theorem pY {α:Type} {w:List UInt8} {ks:List (List KT×α)} {q:List KT}:ks≠[]->JB (Ij w ks++q)=(1,w):=fun h=>by
 cases ks with
 | nil=>exact absurd rfl h
 | cons x r=>rfl
def zb (L:List Tk) (n i:Nat):PR Tr:=if Bs L 1 [105,102] i then (Ey L n (i+1)).bind fun e i=>(Bt L 4 [59] i).bind fun _ i=>.ok e i else .ok wT i
theorem yq {r:Rl} (h:XJ r=0):∃ ts,(∀ rest B,Lx rest B->Lx (VF r++rest) (ts++B))/\(∃ q,ts=(1,[114,117,108,101]) :: q)/\∀ (L:List Tk),TokOK L->∀ (rs:List Rl) (i:Nat) (q:List KT),rs.length < 40->(rs.any fun x=>x.nm == r.nm)=false->Dn L i (ts++q) ->
 LY L (bF L) rs i=.ok r (i+ts.length):=by
 obtain ⟨hv,p0,p1,Bv,qI,QV⟩:=OT h
 have hl:(1<=r.on.length/\r.on.length<=8)/\1<=r.dos.length/\r.dos.length<=8:=by
  unfold XJ at h;rw [hv,if_neg (by decide),if_neg (by omega)] at h;by_cases c:r.on.length < 1\/8 < r.on.length\/r.dos.length < 1\/8 < r.dos.length
  · rw [if_pos c] at h;cases h
  · omega
 clear h;obtain ⟨nm,pr,on,ife,dos⟩:=r;simp only at hv p0 p1 Bv qI QV hl;obtain ⟨⟨l1,l2⟩,l3,l4⟩:=hl;obtain ⟨e2,e3⟩:=JD p0;obtain ⟨k1,o1,o2⟩:=Xq (l:=on) (S:=To) (P:=fun ts t=>∀ (L:List Tk) (i:Nat) (r:List KT),Dn L i (ts++(4,[59]) :: r)->BQ L i=.ok t (i+ts.length)) (fun t ht=>yl (Bv t ht));obtain ⟨k2,d1,d2⟩:=Xq (l:=dos) (S:=VE) (P:=PSp) (fun s hs=>yp (QV s hs));have ln1:k1.length=on.length:=by rw [<- o1,Ab7]
 have ln2:k2.length=dos.length:=by rw [<- d1,Ab7]
 have hI:∃ ti,(∀ rest B,Lx rest B->Lx ((if SQ ife=true then [] else lG ife)++rest) (ti++B))/\(ti=[]\/∃ q,ti=(1,[105,102]) :: q)/\∀ (L:List Tk),TokOK L->∀ (i:Nat) (q:List KT),(∃ y,JB q=(1,y)/\y≠[105,102])->Dn L i (ti++q)->zb L (bF L) i=.ok ife (i+ti.length):=by
  by_cases c:SQ ife=true
  · rw [if_pos c]
    refine ⟨[],fun rest B h=>h,.inl rfl,fun L hT i q ⟨y,hy1,hy2⟩ hq=>?_⟩;have hq:Dn L i q:=hq
    have hn:Bs L 1 [105,102] i=false:=by
     rw [Gb hq,hy1];simpa using hy2
    unfold zb;rw [hn,if_neg (by decide),ui c];rfl
  · rw [if_neg c]
    obtain ⟨ts,x1,x2⟩:=mr qI;refine ⟨(1,[105,102]) :: (ts++[(4,[59])]),fun rest B h=>?_,.inr ⟨_,rfl⟩,fun L hT i q _ hq=>?_⟩
    · have e:(((1,[105,102]) :: (ts++[(4,[59])]))++B:List KT)=(1,[105,102]) :: (ts++(4,[59]) :: B):=by simp
      rw [e];exact eC (w:=[105,102]) (by decide) x1 h
    · have h0:Dn L i ((1,[105,102]) :: (ts++((4,[59]) :: q))):=by simpa using hq
      have h1:=A9 h0;unfold zb;rw [CT h0,if_pos rfl,x2 L hT _ _ h1 (by decide:LG (4,[59]) < 1),A2,CH (BN h1),A2];exact GH (by simp only [Ab0,Aav,Abm];omega)
 obtain ⟨ti,i1,i2,i3⟩:=hI;refine ⟨(1,[114,117,108,101]) :: (1,nm) :: (1,[112,114,105,111,114,105,116,121]) :: (2,Abl pr) :: (4,[123]) :: (Ij [111,110] k1++(ti++(Ij [100,111] k2++[(4,[125])]))),fun rest B hB=>?_,⟨_,rfl⟩,fun L hT rs i q VU cO hq=>?_⟩
 · have t0:Lx ([125,10]++rest) ((4,[125]) :: B):=Ef (FR (c:=125) (by decide)) (Ef (ej (c:=10) rfl) hB)
   have t1:=cf (w:=[100,111]) (S:=VE) (by decide) t0 k2 (fun y hy=>(d2 y hy).1);have t2:=i1 _ _ t1;have t3:=cf (w:=[111,110]) (S:=To) (by decide) t2 k1 (fun y hy=>(o2 y hy).1);rw [o1] at t3;rw [d1] at t3;have t4:=B9 (w:=[114,117,108,101]) (by decide) (B9 (FC hv) (B9 (w:=[112,114,105,111,114,105,116,121]) (by decide) (Da (JA e2) (IZ (Ef (FR (c:=123) (by decide)) (Ef (ej (c:=10) rfl) t3))) rfl)))
   have e:VF ⟨nm,pr,on,ife,dos⟩++rest=[114,117,108,101]++32 :: (nm++32 :: ([112,114,105,111,114,105,116,121]++32 :: (Abl pr++(32 :: ([123]++([10]++((on.flatMap fun x=>cat (cat (32 :: 32 :: ([111,110]++[32])) (To x)) [59,10])++((if SQ ife=true then [] else lG ife)++((dos.flatMap fun x=>cat (cat (32 :: 32 :: ([100,111]++[32])) (VE x)) [59,10])++([125,10]++rest)))))))))):=by
    show (cat (cat (cat (cat [114,117,108,101,32] nm) [32,112,114,105,111,114,105,116,121,32]) (Abl pr)) [32,123,10]++on.flatMap lF++(if SQ ife=true then [] else lG ife)++dos.flatMap lH++[125,10])++rest=_;have f1:on.flatMap lF=on.flatMap fun x=>cat (cat (32 :: 32 :: ([111,110]++[32])) (To x)) [59,10]:=rfl;have f2:dos.flatMap lH=dos.flatMap fun x=>cat (cat (32 :: 32 :: ([100,111]++[32])) (VE x)) [59,10]:=rfl;rw [f1,f2];generalize (on.flatMap fun x=>cat (cat (32 :: 32 :: ([111,110]++[32])) (To x)) [59,10])=F1;generalize (dos.flatMap fun x=>cat (cat (32 :: 32 :: ([100,111]++[32])) (VE x)) [59,10])=F2;generalize (if SQ ife=true then [] else lG ife)=F3;unfold cat;simp
   rw [e];have e':((1,[114,117,108,101]) :: (1,nm) :: (1,[112,114,105,111,114,105,116,121]) :: (2,Abl pr) :: (4,[123]) :: (Ij [111,110] k1++(ti++(Ij [100,111] k2++[(4,[125])])))++B:List KT)=(1,[114,117,108,101]) :: (1,nm) :: (1,[112,114,105,111,114,105,116,121]) :: ([(2,Abl pr)]++([(4,[123])]++([]++(Ij [111,110] k1++(ti++(Ij [100,111] k2++((4,[125]) :: B))))))):=by simp
   rw [e'];exact t4
 · have h0:Dn L i ((1,[114,117,108,101]) :: (1,nm) :: (1,[112,114,105,111,114,105,116,121]) :: (2,Abl pr) :: (4,[123]) :: (Ij [111,110] k1++(ti++(Ij [100,111] k2++((4,[125]) :: q))))):=by simpa using hq
   have h1:=A9 h0;have h2:=A9 h1;have h3:=A9 h2;have h4:=A9 h3;have h5:=A9 h4;have n1:k1≠[]:=fun e=>by rw [e] at ln1;simp at ln1;omega
   have n2:k2≠[]:=fun e=>by rw [e] at ln2;simp at ln2;omega
   have iG:JB (Ij [100,111] k2++(4,[125]) :: q)=(1,[100,111]):=pY n2
   have hd1:JB (ti++(Ij [100,111] k2++(4,[125]) :: q))≠(1,[111,110]):=by
    rcases i2 with rfl | ⟨x,rfl⟩
    · rw [Ab2,iG];decide
    · exact (by decide:((1,[105,102]):KT)≠(1,[111,110]))
   have s1:=cd (w:=[111,110]) (part:=BQ L) k1 [] 10 _ _ (fun x hx=>(o2 x hx).2 L) (by simp;omega) (fun _=>n1) (by omega) h5 hd1;have h6:=BN h5;have s2:=i3 L hT _ _ ⟨[100,111],iG,by decide⟩ h6;have h7:=BN h6;have s3:=cd (w:=[100,111]) (part:=Ed L (bF L)) k2 [] 10 _ _ (fun x hx i r h=>(d2 x hx).2 L hT i r h) (by simp;omega) (fun _=>n2) (by omega) h7 (by decide:((4,[125]):KT)≠(1,[100,111]));have h8:=BN h7;rw [o1,Ab2] at s1;rw [d1,Ab2] at s3;unfold zb at s2;unfold LY;rw [if_neg (by omega),CH h0,A2,GQ h1 hv,A2];rw [if_neg (by rw [cO];decide),CT h2,if_pos rfl,OZ h3 (Nat.zero_le _) (by omega),A2,CH h4,A2,s1,A2,s2,A2,s3,A2,CH h8,A2,e3];exact GH (by simp only [Ab0,Aav,Abm];omega)
def uj:List Rl->List Rl->Prop
 | _,[]=>True
 | pre,r :: l=>XJ r=0/\(pre.any fun x=>x.nm == r.nm)=false/\uj (pre++[r]) l
theorem Xr:∀ (l pre:List Rl) (acc:List UInt8),(VK pre l acc).1=0->(VK pre l acc).2=acc++l.flatMap VF/\uj pre l
 | [],pre,acc,h=>by
  refine ⟨?_,trivial⟩;show acc=acc++[];rw [Abn]
 | r :: l,pre,acc,h=>by
  unfold VK at h |-;by_cases c:XJ r=0
  · rw [if_pos c] at h |-
    cases d:bX pre r.nm with
    | true=>rw [d,if_pos rfl] at h;cases h
    | false=>
     rw [d,if_neg (by decide)] at h;rw [if_neg (by decide)];obtain ⟨h1,h2⟩:=Xr l (pre++[r]) _ h;exact ⟨by rw [h1,Abj,Aba],c,d,h2⟩
  · rw [if_neg c] at h
    exact absurd h c
theorem rL:∀ (l pre:List Rl),uj pre l->pre.length+l.length<=40->∃ ts,Lx (l.flatMap VF) ts/\∀ (L:List Tk),TokOK L->∀ (m i:Nat),l.length < m->Dn L i (ts++[(0,[])])->∃ j,Fy L (bF L) m pre i=.ok (pre++l) j
 | [],pre,_,_=>⟨[],l8.lx,fun L hT m i hm Bv=>by
  obtain ⟨m,rfl⟩:∃ x,m=x+1:=⟨m - 1,by simp at hm;omega⟩;have hk:(tokAt L i).1=0:=EP Bv;refine ⟨i,?_⟩;unfold Fy;rw [if_pos hk,Abn]⟩
 | r :: l,pre,h,hl=>by
  obtain ⟨h1,h2,h3⟩:=h;rw [Ab0] at hl;obtain ⟨tr,r1,⟨x,rfl⟩,r2⟩:=yq h1;obtain ⟨ts,t1,t2⟩:=rL l (pre++[r]) h3 (by rw [Aav,Abd];omega);refine ⟨((1,[114,117,108,101]) :: x)++ts,by rw [Abj];exact r1 _ _ t1,fun L hT m i hm Bv=>?_⟩;rw [Ab0] at hm;obtain ⟨m,rfl⟩:∃ x,m=x+1:=⟨m - 1,by omega⟩;have h0:Dn L i (((1,[114,117,108,101]) :: x)++(ts++[(0,[])])):=by simpa using Bv
  have hk:(tokAt L i).1=1:=EP h0;obtain ⟨j,hj⟩:=t2 L hT m _ (by omega) (BN h0);refine ⟨j,?_⟩;unfold Fy;rw [if_neg (by omega),r2 L hT pre i _ (by omega) h2 h0,A2,hj,Aba];rfl
theorem hQ {l:List Rl} (h:(UA l).1=0):Jw (UA l).2=(l,0,0)/\(UA l).2.length<=20000:=by
 have hl:l.length<=40:=by
  unfold UA at h;by_cases c:40 < l.length
  · rw [if_pos c] at h;cases h
  · omega
 have hg:(VK [] l []).1=0:=by
  unfold UA at h;rw [if_neg (by omega)] at h;by_cases c:(VK [] l []).1=0
  · exact c
  · rw [if_neg c] at h;exact absurd h c
 have ht:(BH (VK [] l []).2).2.2=0:=by
  unfold UA at h;rw [if_neg (by omega),if_pos hg] at h;by_cases c:(BH (VK [] l []).2).2.2=0
  · exact c
  · rw [if_neg c] at h;cases h
 have he:(UA l).2=l.flatMap VF:=by
  unfold UA;rw [if_neg (by omega),if_pos hg,if_pos ht];exact (Xr l [] [] hg).1
 have ht:(BH (l.flatMap VF)).2.2=0:=by
  have:=(Xr l [] [] hg).1;rw [this] at ht;exact ht
 rw [he];obtain ⟨ts,x1,x2⟩:=rL l [] (Xr l [] [] hg).2 (by simpa using hl);obtain ⟨us,e1,e2,hlen⟩:=pM x1 ht;refine ⟨?_,hlen⟩;have hT:=So _ hlen ht
 have Bv:Dn (BH (l.flatMap VF)).1 0 (ts++[(0,[])]):=by
  rw [e2];unfold Dn;rw [Ac1,List.map_append,e1];rfl
 obtain ⟨j,hj⟩:=x2 _ hT 42 0 (by omega) Bv;unfold Jw;rw [if_pos ht,hj];rfl
def Z0 (n:Int):Tr:=.mk 1 0 0 [] (2,n,[]) (0,[],[]) []
def mu (n:Int):Tr:=.mk 1 0 0 [] (1,n,[]) (0,[],[]) []
def mv:Tr:=.mk 2 0 0 [] (0,0,[]) (3,[108,101,118,101,108],[108,101,118,101,108]) []
def Zr (k:Int) (kids:List Tr):Tr:=.mk k 0 0 [] (0,0,[]) (0,[],[]) kids
def uk:Rl:=⟨[97],0,[⟨5,(0,[],[]),(0,[],[]),[],0,0⟩],mu 1,[⟨4,(0,[],[]),[97,119,97,121],.mk 0 0 0 [] (0,0,[]) (0,[],[]) []⟩]⟩
noncomputable def Py (f:FuncId) (a:PV) (s:List UInt8) (e:Int):Bool:=match Fb CC 130 f [a] [] with
 | some (.ret (.tup [.str t,.int .i64 x]),_)=>t == s && x == e
 | _=>false
theorem I0 {f:FuncId} {a:PV} {s:List UInt8} {e:Int} (hp:a.pure=true) (h:Py f a s e=true) (bx) (hh:CC.heap f=false:=by rfl):Ai CC (Ad CC) f [a] bx=some (.ret (.tup [.str s,.int .i64 e]),bx):=by
 unfold Py at h;split at h
 · rename_i t x b hs
   rw [Ab9] at h;have e1:t=s:=by simpa using h.1
   have e2:x=e:=by simpa using h.2
   subst e1 e2;exact Ao hh (by simp only [Ak,hp,Ab4]) (ES.2 ⟨130,hs⟩) rfl
 · cases h
def um:List UInt8:=[53,32,60,61,32,51,46,108,101,118,101,108,46,108,101,118,101,108]
theorem ex1:Py 14 (Bw (Zr 6 [Zr 10 [mv,Z0 5]])) um 0=true:=by kernel_rfl
def uo:List UInt8:=[40,49,32,43,32,50,41,32,42,32,45,51,46,108,101,118,101,108,46,108,101,118,101,108]
theorem iB:Py 14 (Bw (Zr 13 [Zr 11 [Z0 1,Z0 2],Zr 12 [Z0 0,mv]])) uo 0=true:=by kernel_rfl
def uq:List UInt8:=[40,116,114,117,101,32,111,114,32,102,97,108,115,101,41,32,97,110,100,32,116,114,117,101]
theorem ex3:Py 14 (Bw (Zr 7 [Zr 8 [mu 1,mu 0],mu 1])) uq 0=true:=by kernel_rfl
def ur:List UInt8:=[48,32,45,32,45,53]
theorem ex4:Py 14 (Bw (Zr 12 [Z0 0,Z0 (-5)])) ur 0=true:=by kernel_rfl
def uu:List UInt8:=[114,117,108,101,32,97,32,112,114,105,111,114,105,116,121,32,48,32,123,10,32,32,111,110,32,115,116,97,114,116,59,10,32,32,100,111,32,109,111,100,101,32,97,119,97,121,59,10,125,10]
theorem ex5:Py 19 (.sl [Dw uk]) uu 0=true:=by kernel_rfl
theorem ex6:Py 19 (.sl [Dw uk,Dw uk]) [] 9=true:=by kernel_rfl
theorem uv (bx):Ai CC (Ad CC) 14 [Bw (Zr 6 [Zr 10 [mv,Z0 5]])] bx=some (.ret (.tup [.str um,.int .i64 0]),bx):=I0 rfl ex1 bx
theorem uw (bx):Ai CC (Ad CC) 14 [Bw (Zr 13 [Zr 11 [Z0 1,Z0 2],Zr 12 [Z0 0,mv]])] bx=some (.ret (.tup [.str uo,.int .i64 0]),bx):=I0 rfl iB bx
theorem uz (bx):Ai CC (Ad CC) 14 [Bw (Zr 7 [Zr 8 [mu 1,mu 0],mu 1])] bx=some (.ret (.tup [.str uq,.int .i64 0]),bx):=I0 rfl ex3 bx
theorem uA (bx):Ai CC (Ad CC) 14 [Bw (Zr 12 [Z0 0,Z0 (-5)])] bx=some (.ret (.tup [.str ur,.int .i64 0]),bx):=I0 rfl ex4 bx
theorem uB (bx):Ai CC (Ad CC) 19 [.sl [Dw uk]] bx=some (.ret (.tup [.str uu,.int .i64 0]),bx):=I0 rfl ex5 bx
theorem uC (bx):Ai CC (Ad CC) 19 [.sl [Dw uk,Dw uk]] bx=some (.ret (.tup [.str [],.int .i64 9]),bx):=I0 rfl ex6 bx
theorem Xs:Be CC Abh (Abh.body.getD .skip)=true:=by kernel_rfl
theorem UC:CC.P.funcs[10]?=some Abh:=by kernel_rfl
theorem cg:Be CC Abf (Abf.body.getD .skip)=true:=by kernel_rfl
theorem Zs:CC.P.funcs[28]?=some Abf:=by kernel_rfl
theorem hU:Be CC Abg (Abg.body.getD .skip)=true:=by kernel_rfl
theorem cj:CC.P.funcs[27]?=some Abg:=by kernel_rfl
def lfP (k:Int) (v:Vl) (key:Ky):PV:=.agg [.int .i64 k,.int .i64 0,.int .i64 0,.str [],.int .i64 v.1,.int .i64 v.2.1,.str v.2.2,.int .i64 key.1,.str key.2.1,.str key.2.2,.nils]
theorem HR (n:Int):A' CC 24 [(0,.int .i64 2),(1,.int .i64 n)]=some (.agg [.int .i64 2,.int .i64 n,.str []]):=by kernel_rfl
theorem Gq:A' CC 24 [(0,.int .i64 1),(1,.int .i64 1)]=some (.agg [.int .i64 1,.int .i64 1,.str []]):=by kernel_rfl
theorem Gr:A' CC 24 [(0,.int .i64 1)]=some (.agg [.int .i64 1,.int .i64 0,.str []]):=by kernel_rfl
theorem HS (a n:Int) (s:List UInt8):A' CC 29 [(0,.int .i64 1),(4,.agg [.int .i64 a,.int .i64 n,.str s])]=some (lfP 1 (a,n,s) (0,[],[])):=by kernel_rfl
theorem rM:zeroCells CC 29=some [.int .i64 0,.int .i64 0,.int .i64 0,.str [],.int .i64 0,.int .i64 0,.str [],.int .i64 0,.str [],.str [],.nils]:=by kernel_rfl
def nu (k:Int) (v:Vl) (key:Ky):PV:=.agg [.int .i64 k,.int .i64 0,.int .i64 0,.str [],.int .i64 v.1,.int .i64 v.2.1,.str v.2.2,.int .i64 key.1,.str key.2.1,.str key.2.2,.sl []]
theorem uD (n:Int):nu 1 (2,n,[]) (0,[],[])=Bw (Z0 n):=by unfold Z0 Bw A1;rfl
theorem uE (n:Int):nu 1 (1,n,[]) (0,[],[])=Bw (mu n):=by unfold mu Bw A1;rfl
theorem mw (n:Int):∃ bx,Ad CC 28 [.int .i64 n] []=some (.ret (nu 1 (2,n,[]) (0,[],[])),bx):=by
 rw [Ah (fn:=Abf) (c:=Abf.body.getD .skip) rfl rfl Zs rfl cg (Aax rfl)];rw [<- Al];simp only [Aa,Ac,Abf,Aaw];simp only [S9,Af,seval,rM,HR,Gq,Gr,HS,Aay,Aaz];unfold lfP nu;simp only [S9,Af,seval,rM,HR,Gq,Gr,HS,Aay,Aaz];exact ⟨_,rfl⟩
theorem Td (n:Int) (bx):Ai CC (Ad CC) 28 [.int .i64 n] bx=some (.ret (Bw (Z0 n)),bx):=by
 obtain ⟨b,h⟩:=mw n;rw [<- uD];exact Ao rfl rfl h rfl
theorem my (a n:Int) (s:List UInt8):∃ bx,Ad CC 55 [.agg [.int .i64 a,.int .i64 n,.str s]] []=some (.ret (nu 1 (a,n,s) (0,[],[])),bx):=by
 rw [Ah (fn:=Ac0) (c:=Ac0.body.getD .skip) rfl rfl Zj rfl bW (Aax rfl)];rw [<- Al];simp only [Aa,Ac,Ac0,Aaw];simp only [S9,Af,seval,rM,HR,Gq,Gr,HS,Aay,Aaz];unfold lfP nu;simp only [S9,Af,seval,rM,HR,Gq,Gr,HS,Aay,Aaz];exact ⟨_,rfl⟩
theorem mz (a n:Int) (s:List UInt8) (bx):Ai CC (Ad CC) 55 [.agg [.int .i64 a,.int .i64 n,.str s]] bx=some (.ret (nu 1 (a,n,s) (0,[],[])),bx):=by
 obtain ⟨b,h⟩:=my a n s;exact Ao rfl rfl h rfl
theorem hY (b:Bool):∃ bx,Ad CC 26 [.bool b] []=some (.ret (nu 1 (1,if b then 1 else 0,[]) (0,[],[])),bx):=by
 have o1:=mz 1 1 [];have o0:=mz 1 0 [];rw [Ah (fn:=Abs) (c:=Abs.body.getD .skip) rfl rfl Xk rfl Zi (Aax rfl)];cases b with
 | true=>
  rw [<- Al];rw [<- AI] at o1 o0;simp only [Aa,Ac,Abs,Aaw];unfold nu at o1 o0 |-;simp only [S9,Af,seval,rM,HR,Gq,Gr,HS,Aay,Aaz,o1,o0];exact ⟨_,rfl⟩
 | false=>
  rw [<- Al];rw [<- AI] at o1 o0;simp only [Aa,Ac,Abs,Aaw];unfold nu at o1 o0 |-;simp only [S9,Af,seval,rM,HR,Gq,Gr,HS,Aay,Aaz,o1,o0];exact ⟨_,rfl⟩
theorem eD (c:Bool) (bx):Ai CC (Ad CC) 26 [.bool c] bx=some (.ret (Bw (mu (if c then 1 else 0))),bx):=by
 obtain ⟨b,h⟩:=hY c;rw [<- uE];exact Ao rfl rfl h rfl
noncomputable def zd:TypeInfo:=(Abu.info? 29).getD default
theorem yr (pk pn pm pa pb pd:Int) (ps pt pu pv:List UInt8) (px:List PV):AZ CC 27 1 [(0,.agg [.int .i64 pk,.int .i64 pn,.int .i64 pm,.str ps,.int .i64 pa,.int .i64 pb,.str pt,.int .i64 pd,.str pu,.str pv,.sl px])]=some (.osl 29 [.agg [.int .i64 pk,.int .i64 pn,.int .i64 pm,.str ps,.int .i64 pa,.int .i64 pb,.str pt,.int .i64 pd,.str pu,.str pv,.sl px]]):=by
 have hz:tZero CC 29=some (.agg [.int .i64 0,.int .i64 0,.int .i64 0,.str [],.int .i64 0,.int .i64 0,.str [],.int .i64 0,.str [],.str [],.nils]):=by kernel_rfl
 have hi:CC.P.info? 29=some zd:=by kernel_rfl
 have hs:zd.size=11:=by kernel_rfl
 have hu:CC.P.underlying 27=some (.slice 29):=by kernel_rfl
 have ht:tAgg CC 29=true:=by kernel_rfl
 have hp:Gd true 11 (.agg [.int .i64 pk,.int .i64 pn,.int .i64 pm,.str ps,.int .i64 pa,.int .i64 pb,.str pt,.int .i64 pd,.str pu,.str pv,.sl px])=some (.agg [.int .i64 pk,.int .i64 pn,.int .i64 pm,.str ps,.int .i64 pa,.int .i64 pb,.str pt,.int .i64 pd,.str pu,.str pv,.sl px]):=rfl;unfold AZ;simp only [hu,hz,hi,hs,ht,Abw,Abz,hp];rfl
theorem yt (pk pn pm pa pb pd qk qn qm qa qb qd:Int) (ps pt pu pv qs qt qu qv:List UInt8) (px qx:List PV):AZ CC 27 2 [(0,.agg [.int .i64 pk,.int .i64 pn,.int .i64 pm,.str ps,.int .i64 pa,.int .i64 pb,.str pt,.int .i64 pd,.str pu,.str pv,.sl px]),(1,.agg [.int .i64 qk,.int .i64 qn,.int .i64 qm,.str qs,.int .i64 qa,.int .i64 qb,.str qt,.int .i64 qd,.str qu,.str qv,.sl qx])]=some (.osl 29 [.agg [.int .i64 pk,.int .i64 pn,.int .i64 pm,.str ps,.int .i64 pa,.int .i64 pb,.str pt,.int .i64 pd,.str pu,.str pv,.sl px],.agg [.int .i64 qk,.int .i64 qn,.int .i64 qm,.str qs,.int .i64 qa,.int .i64 qb,.str qt,.int .i64 qd,.str qu,.str qv,.sl qx]]):=by
 have hz:tZero CC 29=some (.agg [.int .i64 0,.int .i64 0,.int .i64 0,.str [],.int .i64 0,.int .i64 0,.str [],.int .i64 0,.str [],.str [],.nils]):=by kernel_rfl
 have hi:CC.P.info? 29=some zd:=by kernel_rfl
 have hs:zd.size=11:=by kernel_rfl
 have hu:CC.P.underlying 27=some (.slice 29):=by kernel_rfl
 have ht:tAgg CC 29=true:=by kernel_rfl
 have hp:Gd true 11 (.agg [.int .i64 pk,.int .i64 pn,.int .i64 pm,.str ps,.int .i64 pa,.int .i64 pb,.str pt,.int .i64 pd,.str pu,.str pv,.sl px])=some (.agg [.int .i64 pk,.int .i64 pn,.int .i64 pm,.str ps,.int .i64 pa,.int .i64 pb,.str pt,.int .i64 pd,.str pu,.str pv,.sl px]):=rfl;have hq:Gd true 11 (.agg [.int .i64 qk,.int .i64 qn,.int .i64 qm,.str qs,.int .i64 qa,.int .i64 qb,.str qt,.int .i64 qd,.str qu,.str qv,.sl qx])=some (.agg [.int .i64 qk,.int .i64 qn,.int .i64 qm,.str qs,.int .i64 qa,.int .i64 qb,.str qt,.int .i64 qd,.str qu,.str qv,.sl qx]):=rfl;unfold AZ;simp only [hu,hz,hi,hs,ht,Abw,Abz,hp,hq];rfl
theorem VP (k:Int) (xs:List PV):A' CC 29 [(0,.int .i64 k),(6,.sl xs)]=some (.agg [.int .i64 k,.int .i64 0,.int .i64 0,.str [],.int .i64 0,.int .i64 0,.str [],.int .i64 0,.str [],.str [],.sl xs]):=by kernel_rfl
theorem uF (k pk pn pm pa pb pd qk qn qm qa qb qd:Int) (ps pt pu pv qs qt qu qv:List UInt8) (px qx:List PV) (hp:Ak px=true) (hq:Ak qx=true) (bx):Ai CC (Ad CC) 27 [.int .i64 k,.agg [.int .i64 pk,.int .i64 pn,.int .i64 pm,.str ps,.int .i64 pa,.int .i64 pb,.str pt,.int .i64 pd,.str pu,.str pv,.sl px],.agg [.int .i64 qk,.int .i64 qn,.int .i64 qm,.str qs,.int .i64 qa,.int .i64 qb,.str qt,.int .i64 qd,.str qu,.str qv,.sl qx]] bx=some (.ret (.agg [.int .i64 k,.int .i64 0,.int .i64 0,.str [],.int .i64 0,.int .i64 0,.str [],.int .i64 0,.str [],.str [],.sl [.agg [.int .i64 pk,.int .i64 pn,.int .i64 pm,.str ps,.int .i64 pa,.int .i64 pb,.str pt,.int .i64 pd,.str pu,.str pv,.sl px],.agg [.int .i64 qk,.int .i64 qn,.int .i64 qm,.str qs,.int .i64 qa,.int .i64 qb,.str qt,.int .i64 qd,.str qu,.str qv,.sl qx]]]),bx):=by
 have h:∃ b,Ad CC 27 [.int .i64 k,.agg [.int .i64 pk,.int .i64 pn,.int .i64 pm,.str ps,.int .i64 pa,.int .i64 pb,.str pt,.int .i64 pd,.str pu,.str pv,.sl px],.agg [.int .i64 qk,.int .i64 qn,.int .i64 qm,.str qs,.int .i64 qa,.int .i64 qb,.str qt,.int .i64 qd,.str qu,.str qv,.sl qx]] []=some (.ret (.agg [.int .i64 k,.int .i64 0,.int .i64 0,.str [],.int .i64 0,.int .i64 0,.str [],.int .i64 0,.str [],.str [],.sl [.agg [.int .i64 pk,.int .i64 pn,.int .i64 pm,.str ps,.int .i64 pa,.int .i64 pb,.str pt,.int .i64 pd,.str pu,.str pv,.sl px],.agg [.int .i64 qk,.int .i64 qn,.int .i64 qm,.str qs,.int .i64 qa,.int .i64 qb,.str qt,.int .i64 qd,.str qu,.str qv,.sl qx]]]),b):=by
  rw [Ah (fn:=Abg) (c:=Abg.body.getD .skip) rfl rfl cj rfl hU (Aax rfl)];rw [<- Al];simp only [Aa,Ac,Abg,Aaw];simp only [S9,Af,seval,rM,HR,Gq,Gr,HS,Aay,Aaz,yt,VP];exact ⟨_,rfl⟩
 obtain ⟨b,h⟩:=h;exact Ao rfl (by simp only [Ak,PV.pure,hp,hq,Ab6]) h (by simp only [Ak,PV.pure,hp,hq,Ab6])
theorem mA:A' CC 26 [(0,.int .i64 3),(1,.str [108,101,118,101,108]),(2,.str [108,101,118,101,108])]=some (.agg [.int .i64 3,.str [108,101,118,101,108],.str [108,101,118,101,108]]):=by kernel_rfl
theorem pZ:A' CC 29 [(0,.int .i64 2),(5,.agg [.int .i64 3,.str [108,101,118,101,108],.str [108,101,118,101,108]])]=some (.agg [.int .i64 2,.int .i64 0,.int .i64 0,.str [],.int .i64 0,.int .i64 0,.str [],.int .i64 3,.str [108,101,118,101,108],.str [108,101,118,101,108],.nils]):=by kernel_rfl
theorem Aar:A' CC 58 [(0,.int .i64 5)]=some (.agg [.int .i64 5,.int .i64 0,.str [],.str [],.int .i64 0,.str [],.str [],.str [],.int .i64 0,.int .i64 0]):=by kernel_rfl
theorem yv:AZ CC 22 1 [(0,.agg [.int .i64 5,.int .i64 0,.str [],.str [],.int .i64 0,.str [],.str [],.str [],.int .i64 0,.int .i64 0])]=some (.osl 58 [.agg [.int .i64 5,.int .i64 0,.str [],.str [],.int .i64 0,.str [],.str [],.str [],.int .i64 0,.int .i64 0]]):=by kernel_rfl
theorem Aas:A' CC 60 [(0,.int .i64 4),(2,.str [97,119,97,121])]=some (.agg [.int .i64 4,.int .i64 0,.str [],.str [],.str [97,119,97,121],.int .i64 0,.int .i64 0,.int .i64 0,.str [],.int .i64 0,.int .i64 0,.str [],.int .i64 0,.str [],.str [],.nils]):=by kernel_rfl
theorem yw:AZ CC 30 1 [(0,.agg [.int .i64 4,.int .i64 0,.str [],.str [],.str [97,119,97,121],.int .i64 0,.int .i64 0,.int .i64 0,.str [],.int .i64 0,.int .i64 0,.str [],.int .i64 0,.str [],.str [],.nils])]=some (.osl 60 [.agg [.int .i64 4,.int .i64 0,.str [],.str [],.str [97,119,97,121],.int .i64 0,.int .i64 0,.int .i64 0,.str [],.int .i64 0,.int .i64 0,.str [],.int .i64 0,.str [],.str [],.sl []]]):=by kernel_rfl
theorem Aat:A' CC 32 [(0,.str [97]),(2,.sl [.agg [.int .i64 5,.int .i64 0,.str [],.str [],.int .i64 0,.str [],.str [],.str [],.int .i64 0,.int .i64 0]]),(3,.agg [.int .i64 1,.int .i64 0,.int .i64 0,.str [],.int .i64 1,.int .i64 1,.str [],.int .i64 0,.str [],.str [],.sl []]),(4,.sl [.agg [.int .i64 4,.int .i64 0,.str [],.str [],.str [97,119,97,121],.int .i64 0,.int .i64 0,.int .i64 0,.str [],.int .i64 0,.int .i64 0,.str [],.int .i64 0,.str [],.str [],.sl []]])]=some (.agg [.str [97],.int .i64 0,.sl [.agg [.int .i64 5,.int .i64 0,.str [],.str [],.int .i64 0,.str [],.str [],.str [],.int .i64 0,.int .i64 0]],.int .i64 1,.int .i64 0,.int .i64 0,.str [],.int .i64 1,.int .i64 1,.str [],.int .i64 0,.str [],.str [],.sl [],.sl [.agg [.int .i64 4,.int .i64 0,.str [],.str [],.str [97,119,97,121],.int .i64 0,.int .i64 0,.int .i64 0,.str [],.int .i64 0,.int .i64 0,.str [],.int .i64 0,.str [],.str [],.sl []]]]):=by kernel_rfl
theorem uG:AZ CC 41 1 [(0,.agg [.str [97],.int .i64 0,.sl [.agg [.int .i64 5,.int .i64 0,.str [],.str [],.int .i64 0,.str [],.str [],.str [],.int .i64 0,.int .i64 0]],.int .i64 1,.int .i64 0,.int .i64 0,.str [],.int .i64 1,.int .i64 1,.str [],.int .i64 0,.str [],.str [],.sl [],.sl [.agg [.int .i64 4,.int .i64 0,.str [],.str [],.str [97,119,97,121],.int .i64 0,.int .i64 0,.int .i64 0,.str [],.int .i64 0,.int .i64 0,.str [],.int .i64 0,.str [],.str [],.sl []]]])]=some (.osl 32 [.agg [.str [97],.int .i64 0,.sl [.agg [.int .i64 5,.int .i64 0,.str [],.str [],.int .i64 0,.str [],.str [],.str [],.int .i64 0,.int .i64 0]],.int .i64 1,.int .i64 0,.int .i64 0,.str [],.int .i64 1,.int .i64 1,.str [],.int .i64 0,.str [],.str [],.sl [],.sl [.agg [.int .i64 4,.int .i64 0,.str [],.str [],.str [97,119,97,121],.int .i64 0,.int .i64 0,.int .i64 0,.str [],.int .i64 0,.int .i64 0,.str [],.int .i64 0,.str [],.str [],.sl []]]]]):=by kernel_rfl
theorem uH:AZ CC 41 2 [(0,.agg [.str [97],.int .i64 0,.sl [.agg [.int .i64 5,.int .i64 0,.str [],.str [],.int .i64 0,.str [],.str [],.str [],.int .i64 0,.int .i64 0]],.int .i64 1,.int .i64 0,.int .i64 0,.str [],.int .i64 1,.int .i64 1,.str [],.int .i64 0,.str [],.str [],.sl [],.sl [.agg [.int .i64 4,.int .i64 0,.str [],.str [],.str [97,119,97,121],.int .i64 0,.int .i64 0,.int .i64 0,.str [],.int .i64 0,.int .i64 0,.str [],.int .i64 0,.str [],.str [],.sl []]]]),(1,.agg [.str [97],.int .i64 0,.sl [.agg [.int .i64 5,.int .i64 0,.str [],.str [],.int .i64 0,.str [],.str [],.str [],.int .i64 0,.int .i64 0]],.int .i64 1,.int .i64 0,.int .i64 0,.str [],.int .i64 1,.int .i64 1,.str [],.int .i64 0,.str [],.str [],.sl [],.sl [.agg [.int .i64 4,.int .i64 0,.str [],.str [],.str [97,119,97,121],.int .i64 0,.int .i64 0,.int .i64 0,.str [],.int .i64 0,.int .i64 0,.str [],.int .i64 0,.str [],.str [],.sl []]]])]=some (.osl 32 [.agg [.str [97],.int .i64 0,.sl [.agg [.int .i64 5,.int .i64 0,.str [],.str [],.int .i64 0,.str [],.str [],.str [],.int .i64 0,.int .i64 0]],.int .i64 1,.int .i64 0,.int .i64 0,.str [],.int .i64 1,.int .i64 1,.str [],.int .i64 0,.str [],.str [],.sl [],.sl [.agg [.int .i64 4,.int .i64 0,.str [],.str [],.str [97,119,97,121],.int .i64 0,.int .i64 0,.int .i64 0,.str [],.int .i64 0,.int .i64 0,.str [],.int .i64 0,.str [],.str [],.sl []]]],.agg [.str [97],.int .i64 0,.sl [.agg [.int .i64 5,.int .i64 0,.str [],.str [],.int .i64 0,.str [],.str [],.str [],.int .i64 0,.int .i64 0]],.int .i64 1,.int .i64 0,.int .i64 0,.str [],.int .i64 1,.int .i64 1,.str [],.int .i64 0,.str [],.str [],.sl [],.sl [.agg [.int .i64 4,.int .i64 0,.str [],.str [],.str [97,119,97,121],.int .i64 0,.int .i64 0,.int .i64 0,.str [],.int .i64 0,.int .i64 0,.str [],.int .i64 0,.str [],.str [],.sl []]]]]):=by kernel_rfl
theorem uI:Dw uk=.agg [.str [97],.int .i64 0,.sl [.agg [.int .i64 5,.int .i64 0,.str [],.str [],.int .i64 0,.str [],.str [],.str [],.int .i64 0,.int .i64 0]],.int .i64 1,.int .i64 0,.int .i64 0,.str [],.int .i64 1,.int .i64 1,.str [],.int .i64 0,.str [],.str [],.sl [],.sl [.agg [.int .i64 4,.int .i64 0,.str [],.str [],.str [97,119,97,121],.int .i64 0,.int .i64 0,.int .i64 0,.str [],.int .i64 0,.int .i64 0,.str [],.int .i64 0,.str [],.str [],.sl []]]]:=rfl
theorem RLz:zeroCells CC 32=some [.str [],.int .i64 0,.nils,.int .i64 0,.int .i64 0,.int .i64 0,.str [],.int .i64 0,.int .i64 0,.str [],.int .i64 0,.str [],.str [],.nils,.nils]:=by kernel_rfl
theorem p7 (s:List UInt8):ED .neq s s=some (.bool false):=by simp [ED]
theorem p8 (s:List UInt8):ED .eql s s=some (.bool true):=by simp [ED]
theorem cp:∃ bx,Ad CC 10 [] []=some (.ret (.bool true),bx):=by
 have f1:=eD true;have f0:=eD false;have l0:=Td 0;have l1:=Td 1;have l2:=Td 2;have l5:=Td 5;have lm:=Td (-5);have x1:=uv;have x2:=uw;have x3:=uz;have x4:=uA;have x5:=uB;have x6:=uC;have op:=uF;simp only [if_true,Abe,if_false] at f1 f0;simp only [Bw,A1,Zr,Z0,mv,mu] at f1 f0 l0 l1 l2 l5 lm x1 x2 x3 x4;unfold um at x1;unfold uo at x2;unfold uq at x3;unfold ur at x4;unfold uu at x5;rw [uI] at x5 x6;rw [Ah (fn:=Abh) (c:=Abh.body.getD .skip) rfl rfl UC rfl Xs (Aax rfl)];rw [<- Al];rw [<- AI] at f1 f0 l0 l1 l2 l5 lm x1 x2 x3 x4 x5 x6 op;simp only [Aa,Ac,Abh,Aaw];have t1:=op 10 2 0 0 0 0 3 1 0 0 2 5 0 [] [] [108,101,118,101,108] [108,101,118,101,108] [] [] [] [] [] [] rfl rfl;have t2:=op 11 1 0 0 2 1 0 1 0 0 2 2 0 [] [] [] [] [] [] [] [] [] [] rfl rfl;have t3:=op 12 1 0 0 2 0 0 2 0 0 0 0 3 [] [] [] [] [] [] [108,101,118,101,108] [108,101,118,101,108] [] [] rfl rfl
 have t4:=op 13 11 0 0 0 0 0 12 0 0 0 0 0 [] [] [] [] [] [] [] [] [.agg [.int .i64 1,.int .i64 0,.int .i64 0,.str [],.int .i64 2,.int .i64 1,.str [],.int .i64 0,.str [],.str [],.sl []],.agg [.int .i64 1,.int .i64 0,.int .i64 0,.str [],.int .i64 2,.int .i64 2,.str [],.int .i64 0,.str [],.str [],.sl []]] [.agg [.int .i64 1,.int .i64 0,.int .i64 0,.str [],.int .i64 2,.int .i64 0,.str [],.int .i64 0,.str [],.str [],.sl []],.agg [.int .i64 2,.int .i64 0,.int .i64 0,.str [],.int .i64 0,.int .i64 0,.str [],.int .i64 3,.str [108,101,118,101,108],.str [108,101,118,101,108],.sl []]] rfl rfl;have t5:=op 8 1 0 0 1 1 0 1 0 0 1 0 0 [] [] [] [] [] [] [] [] [] [] rfl rfl;have t6:=op 7 8 0 0 0 0 0 1 0 0 1 1 0 [] [] [] [] [] [] [] [] [.agg [.int .i64 1,.int .i64 0,.int .i64 0,.str [],.int .i64 1,.int .i64 1,.str [],.int .i64 0,.str [],.str [],.sl []],.agg [.int .i64 1,.int .i64 0,.int .i64 0,.str [],.int .i64 1,.int .i64 0,.str [],.int .i64 0,.str [],.str [],.sl []]] [] rfl rfl;have t7:=op 12 1 0 0 2 0 0 1 0 0 2 (-5) 0 [] [] [] [] [] [] [] [] [] [] rfl rfl;simp only [S9,Af,seval,rM,HR,Gq,Gr,HS,Aay,Aaz,t1,t2,t3,t4,t5,t6,t7,yr,VP,mA,pZ,f1,f0,l0,l1,l2,l5,lm,x1,x2,x3,x4,x5,x6,p7,p8,Aar,yv,Aas,yw,Aat,uG,uH,RLz];exact ⟨_,rfl⟩
theorem mB (bx):Ai CC (Ad CC) 10 [] bx=some (.ret (.bool true),bx):=by
 obtain ⟨b,h⟩:=cp;exact Ao rfl rfl h rfl
theorem cq:Be CC Ab1 (Ab1.body.getD .skip)=true:=by kernel_rfl
theorem Zt:CC.P.funcs[16]?=some Ab1:=by kernel_rfl
theorem L3 {x:List PV} {b:List PBox} (h:x.length.ble Ab1.ntmps=true):Ad CC 16 x b=CD CC Ab1.results.toList (Cf CC (Ab1.body.getD .skip) ⟨x,b⟩):=Ah (fn:=Ab1) (c:=Ab1.body.getD .skip) rfl rfl Zt rfl cq (Aax h)
theorem uJ (L:Code) (hL:L=Aa Ab1 [1,1,0,1,0]) (l:List Rl) (hl:l.length<=50):∀ (k i:Nat) (e:List PV) (ys:List PBox),i+k=l.length ->
 getT e 8=.sl (l.map Dw)->getT e 9=.int .i64 l.length->getT e 10=.int .i64 i ->
 (match (l.drop i).all Ig with
  | true=>∃ e' ys',Cf CC L ⟨e,ys⟩=some (.exit 0,⟨e',ys'⟩)
  | false=>∃ e' ys',Cf CC L ⟨e,ys⟩=some (.ret,⟨e',ys'⟩)/\getT e' 2=.bool false):=by
 intro k
 induction k with
 | zero=>
  intro i e ys DK es el ei;rw [AX (Aa Ab1 [1,1,0,1,0,0]) hL];have hi:¬ ((i:Int) < (l.length:Int)):=by omega
  rw [List.drop_eq_nil_of_le (by omega),List.all_nil];generalize l.map Dw=xs at *;rw [<- Al];simp only [Aa,Ac,Ab1,Aaw];simp only [S9,Af,seval,Aw,es,el,ei,hi];exact ⟨_,_,rfl⟩
 | succ k ih=>
  intro i e ys DK es el ei;rw [AX (Aa Ab1 [1,1,0,1,0,0]) hL];have hi:((i:Int) < (l.length:Int)):=by omega
  have C4:¬ ((i:Int) < 0):=by omega
  have G1:l.drop i=(l[i]'(by omega)) :: l.drop (i+1):=List.drop_eq_getElem_cons (by omega);have hx:(l.map Dw)[i]?=some (Dw (l[i]'(by omega))):=by rw [Abi,List.getElem?_eq_getElem (by omega)];rfl
  have I5:=wrap_i64 (n:=(i:Int)+1) ⟨by omega,by omega⟩;have key:=fun e ys=>ih (i+1) e ys (by omega);have cast1:((i+1:Nat):Int)=(i:Int)+1:=by omega
  rw [cast1] at key;rw [G1,List.all_cons];have opl:=lA (l[i]'(by omega));generalize (l.drop (i+1)).all Ig=rest at *;generalize l[i]'(by omega)=x at *;generalize l.map Dw=ps at *;have hz:=ZRl;have hs:=fun a b=>SY ys a b;have hg:=fun a=>List.getElem?_concat_length (l:=ys) (a:=a);generalize Ig x=px at *;obtain ⟨nm,pr,on,⟨zk,zn,zm,znm,zv,zkey,zkids⟩,dos⟩:=x;unfold Dw Vx Bw at hx opl;simp only [SA,Abc,Ab2] at hx opl;have nP:=AW zkids;have nG:=NG on;have eX:=NH dos;generalize A1 zkids=zs at *;generalize on.map BE=xs at *;generalize dos.map Ec=zz at *;cases px with
  | false=>
   simp only [Ac2];clear key;rw [<- Al];rw [<- AI] at opl;simp only [Aa,Ac,Ab1,Aaw];simp only [S9,Af,seval,Aw,es,el,ei,hi,C4,hx,opl,hz,hs,hg,nG,eX,nP];exact ⟨_,_,rfl,by simp only [S7,Af,seval]⟩
  | true=>
   simp only [Abq];rw [<- Al];rw [<- Al] at key;rw [<- AI] at opl;simp only [Aa,Ac,Ab1,Aaw];simp only [S9,Af,seval,Aw,es,el,ei,hi,C4,hx,I5,opl,hz,hs,hg,nG,eX,nP];refine key _ _ ?_ ?_ ?_
   all_goals simp only [S7,Af,seval,es,el]
def mC (l:List Rl):Bool:=decide (l.length<=8) && l.all Ig
theorem mD (l:List Rl):∃ bx,Ad CC 16 [.sl (l.map Dw)] []=some (.ret (.bool (mC l)),bx):=by
 have hlen:(((l.map Dw).length:Nat):Int)=(l.length:Int):=by rw [Ab7]
 unfold mC;by_cases h8:l.length<=8
 case neg=>
  have c:((l.length:Int) > 8):=by omega
  rw [decide_eq_false h8,Ac2];generalize l.map Dw=ls at *;generalize l.length=ln at *;rw [L3 rfl];rw [<- Al];simp only [Aa,Ac,Ab1,Aaw];simp only [S9,Af,seval,Aw,hlen,c];exact ⟨_,rfl⟩
 have c:¬ ((l.length:Int) > 8):=by omega
 rw [decide_eq_true h8,Abq];have QW:=fun e ys=>uJ _ rfl l (by omega) l.length 0 e ys (Nat.zero_add _);rw [Ac1] at QW;generalize l.all Ig=pa at *;generalize l.map Dw=ls at *;generalize l.length=ln at *;rw [L3 rfl];simp only [Aa,Ac,Ab1,Aaw] at QW |-;rw [<- Al];rw [<- Al] at QW;simp only [S9,Af,seval,Aw,hlen,c];generalize hE:GM (Aby _) _=z;cases pa with
 | true=>
  have hP:∃ e' ys',z=some (.exit 0,⟨e',ys'⟩):=by
   rw [<- hE];refine QW _ _ ?_ ?_ ?_
   all_goals first | (simp only [S7,Af,seval];done) | (simp only [S7,Af,seval] <;> rfl)
  obtain ⟨e',ys',rfl⟩:=hP;simp only [S9,Af,seval,Aw,c];exact ⟨_,rfl⟩
 | false=>
  have hP:∃ e' ys',z=some (.ret,⟨e',ys'⟩)/\getT e' 2=.bool false:=by
   rw [<- hE];refine QW _ _ ?_ ?_ ?_
   all_goals first | (simp only [S7,Af,seval];done) | (simp only [S7,Af,seval] <;> rfl)
  obtain ⟨e',ys',rfl,g2⟩:=hP;simp only [S9,Af,seval,Aw,g2];exact ⟨_,rfl⟩
theorem uK (l:List Rl) (bx):Ai CC (Ad CC) 16 [.sl (l.map Dw)] bx=some (.ret (.bool (mC l)),bx):=by
 obtain ⟨b,hc⟩:=mD l;refine Ao rfl ?_ hc rfl;rw [AK,Bk,Ab4];exact K3 l
theorem mE {p:PV} (h:Km Abu 41 p):∃ l:List Rl,p=.sl (l.map Dw)/\∀ r ∈ l,Sa r:=by
 obtain ⟨xs,rfl,_,hx⟩:=aJ (P:=Abu) (e:=32) (by kernel_rfl) h;obtain ⟨l,rfl,hl⟩:=ML (f:=Dw) (Q:=Sa) xs (fun x Gz=>oP (hx x Gz));exact ⟨l,rfl,hl⟩
theorem eE (e:List PV) (bx:List PBox) (i:Int) (ds sc:List PV):C2 e bx i ds sc []=⟨e,bx⟩:=by simp [C2,FQ,By,Kd]
def Ik (e:List PV) (bx:List PBox) (i:Int) (ds sc:List PV) (f:Bool):St:=⟨By e (fun _=>true) (FQ bx.length i ds sc f),bx++[JO sc true,JO sc true]⟩
theorem uL {e:List PV} {bx:List PBox} {i:Int} {ds sc:List PV} {acc:List Nat} (h:∀ j,j < 14->acc.contains j=true):C2 e bx i ds sc acc=Ik e bx i ds sc (L2 acc):=by
 unfold C2 Ik Kd;rw [h 10 (by omega),h 11 (by omega),h 12 (by omega),h 13 (by omega)];have hf:(if L2 acc=true then [JO sc true,JO sc true] else [JO sc true,JO sc true])=[JO sc true,JO sc true]:=by split <;> rfl
 simp only [hf]
 congr 1
 unfold FQ;simp only [By,h 0 (by omega),h 1 (by omega),h 2 (by omega),h 3 (by omega),h 4 (by omega),h 5 (by omega),h 6 (by omega),h 7 (by omega),h 8 (by omega),h 9 (by omega),h 10 (by omega),h 11 (by omega),if_true]
theorem FD (e:List PV) (bx:List PBox) (i:Int) (ds sc:List PV) (f:Bool) (t:Nat):getT (Ik e bx i ds sc f).env t =
 if t=6 then .bp (if f then bx.length else bx.length+1) 0 else if t=7 then .bp (if f then bx.length+1 else bx.length) 0 else
 if t=51 then .bp 0 14 else if t=52 then .sl ds else if t=53 then .int .i64 i else if t=54 then .ip sc else if t=55 then .agg sc else if t=56 then .bp 1 14 else if t=57 then .sl ds else if t=58 then .int .i64 i else if t=59 then .ip sc else if t=60 then .agg sc else getT e t:=by
 have JE:=Mq bx.length i ds sc f;have on:∀ k d v,(k,d,v) ∈ FQ bx.length i ds sc f->getT (By e (fun _=>true) (FQ bx.length i ds sc f)) d=v:=fun k d v hm=>BT e _ k d v rfl _ hm JE;unfold Ik;simp only;by_cases h:t=6
 · subst h;rw [if_pos rfl];exact on 10 6 _ (by unfold FQ;simp)
 rw [if_neg h];by_cases h:t=7
 · subst h;rw [if_pos rfl];exact on 11 7 _ (by unfold FQ;simp)
 rw [if_neg h];by_cases nD:t=51
 · subst nD;rw [if_pos rfl];exact on 0 51 _ (by unfold FQ;simp)
 rw [if_neg nD];by_cases nE:t=52
 · subst nE;rw [if_pos rfl];exact on 1 52 _ (by unfold FQ;simp)
 rw [if_neg nE];by_cases nF:t=53
 · subst nF;rw [if_pos rfl];exact on 2 53 _ (by unfold FQ;simp)
 rw [if_neg nF];by_cases h54:t=54
 · subst h54;rw [if_pos rfl];exact on 3 54 _ (by unfold FQ;simp)
 rw [if_neg h54];by_cases h55:t=55
 · subst h55;rw [if_pos rfl];exact on 4 55 _ (by unfold FQ;simp)
 rw [if_neg h55];by_cases h56:t=56
 · subst h56;rw [if_pos rfl];exact on 5 56 _ (by unfold FQ;simp)
 rw [if_neg h56];by_cases h57:t=57
 · subst h57;rw [if_pos rfl];exact on 6 57 _ (by unfold FQ;simp)
 rw [if_neg h57];by_cases h58:t=58
 · subst h58;rw [if_pos rfl];exact on 7 58 _ (by unfold FQ;simp)
 rw [if_neg h58];by_cases h59:t=59
 · subst h59;rw [if_pos rfl];exact on 8 59 _ (by unfold FQ;simp)
 rw [if_neg h59];by_cases vG:t=60
 · subst vG;rw [if_pos rfl];exact on 9 60 _ (by unfold FQ;simp)
 rw [if_neg vG];exact Hd e _ t _ (by unfold FQ;simp;omega)
theorem hZ {e:List PV} {bx:List PBox} {i:Int} {ds sc:List PV} (f:Bool) (n:Nat) (hn:bx.length+2<=n) (h2:2<=bx.length) (hd:Ak ds=true) (hs:Ak sc=true) (he:∀ t,(getT e t).under n=true) (t:Nat):(getT (Ik e bx i ds sc f).env t).under n=true:=by
 rw [FD];have u1:(PV.sl ds).under n=true:=Ay n ds hd;have u2:(PV.ip sc).under n=true:=Ay n sc hs;have u3:(PV.agg sc).under n=true:=Ay n sc hs;have b:∀ id off,id < n->(PV.bp id off).under n=true:=fun id off h=>decide_eq_true h
 repeat' split
 all_goals first | exact he t | assumption | exact b _ _ (by omega) | exact b _ _ (by split <;> omega) | rfl
theorem eF {e:List PV} {bx:List PBox} {i:Int} {ds sc:List PV} (h2:2<=bx.length) (hd:Ak ds=true) (hs:Ak sc=true) (he:∀ t,(getT e t).under bx.length=true) (hb:∀ b ∈ bx,b.under bx.length=true) (f:Bool) :
 Eqv bx.length (Ik e bx i ds sc f) (Ik e bx i ds sc (!f)):=by
 refine ⟨by simp [Ik],by simp [Ik],fun t=>?_,fun id b hid=>?_⟩
 · by_cases h6:t=6
   · refine .inr ⟨if f then bx.length else bx.length+1,0,?_,?_⟩
     · rw [FD,if_pos h6]
     · rw [FD,if_pos h6]
       cases f <;> simp [swp]
   by_cases h7:t=7
   · refine .inr ⟨if f then bx.length+1 else bx.length,0,?_,?_⟩
     · rw [FD,if_neg h6,if_pos h7]
     · rw [FD,if_neg h6,if_pos h7]
       cases f <;> simp [swp]
   refine .inl ⟨?_,?_⟩
   · rw [FD,if_neg h6,if_neg h7]
     have u1:(PV.sl ds).under bx.length=true:=Ay _ ds hd;have u2:(PV.ip sc).under bx.length=true:=Ay _ sc hs;have u3:(PV.agg sc).under bx.length=true:=Ay _ sc hs;have b:∀ id off,id < bx.length->(PV.bp id off).under bx.length=true:=fun id off h=>decide_eq_true h
     repeat' split
     all_goals first | exact he t | assumption | exact b _ _ (by omega) | rfl
   · rw [FD,FD,if_neg h6,if_neg h7,if_neg h6,if_neg h7]
 · have hc:(JO sc true).under bx.length=true:=by
    show Ar _ (if true then sc else hF)=true;rw [if_pos rfl];exact Ay _ sc hs
   have BC:=(List.getElem?_eq_some_iff.1 hid).1;have hlen:(Ik e bx i ds sc f).bx.length=bx.length+2:=by simp [Ik]
   have Kf:∀ g,(Ik e bx i ds sc g).bx=bx++[JO sc true,JO sc true]:=fun g=>rfl;rw [Kf] at hid hlen BC |-;by_cases eI:id < bx.length
   · rw [Abo eI] at hid
     exact ⟨hb b (List.mem_of_getElem? hid),by rw [Z7 eI,Abo eI];exact hid⟩
   · have JR:id=bx.length\/id=bx.length+1:=by omega
     rcases JR with rfl | rfl
     · rw [Aau (Ac4 _),Abk] at hid
       have hid:JO sc true=b:=by simpa using hid
       subst hid;refine ⟨hc,?_⟩;unfold swp;rw [if_pos rfl,Aau (by omega),show bx.length+1 - bx.length=1 by omega];rfl
     · rw [Aau (by omega),show bx.length+1 - bx.length=1 by omega] at hid
       have hid:JO sc true=b:=by simpa using hid
       subst hid;refine ⟨hc,?_⟩;unfold swp;rw [if_neg (by omega),if_pos rfl,Aau (Ac4 _),Abk];rfl
theorem qc (c0 c1 c2 c3 c4 c5 c6 c7 c8 c9 c10 c11 c12 c13:PV) (ds sc:List PV) (rest:List PBox) (e:List PV) (i:Nat) (hx:ds[i]?=some (.agg sc)) (hl:sc.length=16) (eY:sc.map PV.ro=sc) (h1:sc.all PV.one=true) (hd:Ak ds=true) (hs:Ak sc=true)
 (h2:getT e 2=.bp 0 0) (h3:getT e 3=.bp 1 0) (h5:getT e 5=.int .i64 i) (he:∀ t,(getT e t).under (rest.length+2)=true) (hb:∀ b ∈ (Hz c0 c1 c2 c3 c4 c5 c6 c7 c8 c9 c10 c11 c12 c13 ds :: Hz c0 c1 c2 c3 c4 c5 c6 c7 c8 c9 c10 c11 c12 c13 ds :: rest),b.under (rest.length+2)=true) :
 ∃ f,drawAll CC (Ad CC) (opsOf (Aa Ab8 [1,1,0,1,0,0,1,1,0,0,1,0])) ⟨e,Hz c0 c1 c2 c3 c4 c5 c6 c7 c8 c9 c10 c11 c12 c13 ds :: Hz c0 c1 c2 c3 c4 c5 c6 c7 c8 c9 c10 c11 c12 c13 ds :: rest⟩=some (.normal,Ik e (Hz c0 c1 c2 c3 c4 c5 c6 c7 c8 c9 c10 c11 c12 c13 ds :: Hz c0 c1 c2 c3 c4 c5 c6 c7 c8 c9 c10 c11 c12 c13 ds :: rest) i ds sc f):=by
 have hlen:(Hz c0 c1 c2 c3 c4 c5 c6 c7 c8 c9 c10 c11 c12 c13 ds :: Hz c0 c1 c2 c3 c4 c5 c6 c7 c8 c9 c10 c11 c12 c13 ds :: rest).length=rest.length+2:=rfl;have EC:=lY c0 c1 c2 c3 c4 c5 c6 c7 c8 c9 c10 c11 c12 c13 ds sc rest e i hx hl eY h1 h2 h3 h5;have D1:=bY (opsOf (Aa Ab8 [1,1,0,1,0,0,1,1,0,0,1,0]));rw [Abx] at D1
 have hf:∀ l ∈ BO (opsOf (Aa Ab8 [1,1,0,1,0,0,1,1,0,0,1,0])),C2 e (Hz c0 c1 c2 c3 c4 c5 c6 c7 c8 c9 c10 c11 c12 c13 ds :: Hz c0 c1 c2 c3 c4 c5 c6 c7 c8 c9 c10 c11 c12 c13 ds :: rest) i ds sc l.reverse=Ik e (Hz c0 c1 c2 c3 c4 c5 c6 c7 c8 c9 c10 c11 c12 c13 ds :: Hz c0 c1 c2 c3 c4 c5 c6 c7 c8 c9 c10 c11 c12 c13 ds :: rest) i ds sc true\/C2 e (Hz c0 c1 c2 c3 c4 c5 c6 c7 c8 c9 c10 c11 c12 c13 ds :: Hz c0 c1 c2 c3 c4 c5 c6 c7 c8 c9 c10 c11 c12 c13 ds :: rest) i ds sc l.reverse=Ik e (Hz c0 c1 c2 c3 c4 c5 c6 c7 c8 c9 c10 c11 c12 c13 ds :: Hz c0 c1 c2 c3 c4 c5 c6 c7 c8 c9 c10 c11 c12 c13 ds :: rest) i ds sc false:=fun l hl=>by
  have hc:=D1 l hl;rw [Abx] at hc
  have hc:∀ j,j < 14->l.reverse.contains j=true:=fun j hj=>by
   have:=hc j (List.mem_range.2 (by rw [ef];exact hj));rw [List.contains_iff_mem] at this |-;exact List.mem_reverse.2 this
  rw [uL hc];cases L2 l.reverse
  · exact .inr rfl
  · exact .inl rfl
 rw [<- hlen] at he hb;generalize (Hz c0 c1 c2 c3 c4 c5 c6 c7 c8 c9 c10 c11 c12 c13 ds :: Hz c0 c1 c2 c3 c4 c5 c6 c7 c8 c9 c10 c11 c12 c13 ds :: rest)=bx at *;have iE:2<=bx.length:=by omega
 rw [<- eE e bx i ds sc];have e1:=eF (i:=i) iE hd hs he hb true;have e2:=eF (i:=i) iE hd hs he hb false;have uZ:(C2 e bx i ds sc []).bx.length=bx.length:=by rw [eE]
 rcases Ty (hC pG) EC hf (by rw [uZ];exact e1) (by rw [uZ];exact e2) with h | h
 · exact ⟨true,h⟩
 · exact ⟨false,h⟩
theorem Eg {e:List PV} {n d:Nat} {v:PV} (h:∀ t,(getT e t).under n=true) (hv:v.under n=true) (t:Nat):(getT (setT e d v) t).under n=true:=by
 rw [Dc];split
 · exact hv
 · exact h t
theorem ia (e:List PV) (bx:List PBox) (i:Int) (ds sc:List PV) (f:Bool):∃ E B i6 i7,Ik e bx i ds sc f=⟨E,B⟩/\getT E 6=.bp i6 0/\getT E 7=.bp i7 0/\B[i6]?=some (.cells 60 sc)/\B[i7]?=some (.cells 60 sc)/\i6 < bx.length+2/\i7 < bx.length+2 /\
 B=bx++[.cells 60 sc,.cells 60 sc]/\(∀ t,t < 51->t≠6->t≠7->getT E t=getT e t)/\(∀ n,bx.length+2<=n->2<=bx.length->Ak ds=true->Ak sc=true->(∀ t,(getT e t).under n=true)->∀ t,(getT E t).under n=true):=by
 have hc:JO sc true=.cells 60 sc:=rfl;refine ⟨(Ik e bx i ds sc f).env,(Ik e bx i ds sc f).bx,if f then bx.length else bx.length+1,if f then bx.length+1 else bx.length,rfl,?_,?_,?_,?_,?_,?_,?_,?_,?_⟩
 · rw [FD,if_pos rfl]
 · rw [FD,if_neg (by omega),if_pos rfl]
 · unfold Ik
   simp only;cases f
   · simp only [Abe,if_false]
     rw [Aau (by omega),show bx.length+1 - bx.length=1 by omega];rfl
   · simp only [if_true]
     rw [Aau (by omega),Abk];rfl
 · unfold Ik
   simp only;cases f
   · simp only [Abe,if_false]
     rw [Aau (by omega),Abk];rfl
   · simp only [if_true]
     rw [Aau (by omega),show bx.length+1 - bx.length=1 by omega];rfl
 · split <;> omega
 · split <;> omega
 · rfl
 · intro t h1 h2 h3
   rw [FD,if_neg h2,if_neg h3,if_neg (by omega),if_neg (by omega),if_neg (by omega),if_neg (by omega),if_neg (by omega),if_neg (by omega),if_neg (by omega),if_neg (by omega),if_neg (by omega),if_neg (by omega)]
 · intro n h1 h2 h3 h4 h5 t
   exact hZ f n h1 h2 h3 h4 h5 t
theorem qe (L:Code) (hL:L=Aa Ab8 [1,1,0,1,0]) (c0 c1 c2 c3 c4 c5 c6 c7 c8 c9 c10 c11 c12 c13:PV) (l:List Sp) (hl:l.length<=100) (hs:∀ x ∈ l,FM x.ex):∀ (k i:Nat) (e:List PV) (rest:List PBox),i+k=l.length->getT e 2=.bp 0 0->getT e 3=.bp 1 0->getT e 47=.int .i64 l.length->getT e 48=.int .i64 i ->
 (∀ t,(getT e t).under (rest.length+2)=true)->(∀ b ∈ (Hz c0 c1 c2 c3 c4 c5 c6 c7 c8 c9 c10 c11 c12 c13 (l.map Ec) :: Hz c0 c1 c2 c3 c4 c5 c6 c7 c8 c9 c10 c11 c12 c13 (l.map Ec) :: rest),b.under (rest.length+2)=true)->∃ e' bx',Lp CC L ⟨e,Hz c0 c1 c2 c3 c4 c5 c6 c7 c8 c9 c10 c11 c12 c13 (l.map Ec) :: Hz c0 c1 c2 c3 c4 c5 c6 c7 c8 c9 c10 c11 c12 c13 (l.map Ec) :: rest⟩=some (.exit 0,⟨e',bx'⟩):=by
 intro k
 induction k with
 | zero=>
  intro i e rest DK e2 e3 el ei _ _;rw [Ez (Aa Ab8 [1,1,0,1,0,0]) hL];have hi:¬ ((i:Int) < (l.length:Int)):=by omega
  generalize (Hz c0 c1 c2 c3 c4 c5 c6 c7 c8 c9 c10 c11 c12 c13 (l.map Ec) :: Hz c0 c1 c2 c3 c4 c5 c6 c7 c8 c9 c10 c11 c12 c13 (l.map Ec) :: rest)=bx;rw [<- Ch];simp only [Aa,Ac,Ab8,Aaw];simp only [S9,A6,seval,CZ,Aw,Gj,Cw,K5,Ab5,e2,e3,el,ei,hi];exact ⟨_,_,rfl⟩
 | succ k ih=>
  intro i e rest DK e2 e3 el ei hu hb;rw [Ez (Aa Ab8 [1,1,0,1,0,0]) hL];have hi:((i:Int) < (l.length:Int)):=by omega
  have hx:l[i]?=some (l[i]'(by omega)):=by simp
  have Gz:(l.map Ec)[i]?=some (Ec (l[i]'(by omega))):=by rw [Abi,hx];rfl
  have Bb:=Nx (l[i]'(by omega)).ex (hs _ (Abv _));have vI:=Hp (l[i]'(by omega));generalize l[i]'(by omega)=x at *;have I5:=wrap_i64 (n:=(i:Int)+1) ⟨by omega,by omega⟩;have key:=fun e rest=>ih (i+1) e rest (by omega);have cast1:((i+1:Nat):Int)=(i:Int)+1:=by omega
  rw [cast1] at key;obtain ⟨pk,⟨dv,cl,at_⟩,pn,xk,xn,xm,xnm,xv,xkey,xkids⟩:=x;have h1:∀ z:Int,(z != z)=false:=fun z=>by simp
  have h4:ED .neq pn pn=some (.bool false):=by rw [DB];simp
  have h6:Mx CC 100 26 (.agg [.int .i64 dv,.str cl,.str at_]) (.agg [.int .i64 dv,.str cl,.str at_])=some true:=by rw [fP];simp
  rw [<- sW] at Gz vI;unfold D0 Sc at Gz vI;rw [Sh] at Gz vI;unfold Bw at Bb;have eX:=AW xkids;generalize A1 xkids=ys at *;simp only [Abc,Ab2] at Gz Bb vI;have hd:=fun e h2 h3 h5 he=>qc c0 c1 c2 c3 c4 c5 c6 c7 c8 c9 c10 c11 c12 c13 (l.map Ec) _ rest e i Gz rfl rfl rfl (map_pure Ec Hp l) vI h2 h3 h5 he hb;simp only [<- A8 xL] at hd;have hds:=map_pure Ec Hp l;rw [<- Ch] at key;rw [<- C3] at Bb;rw [<- Ch];rw [<- I3] at hd;simp only [opsOf,Aa,Ac,Ab8,Aaw] at hd |-;generalize Kf:(Hz c0 c1 c2 c3 c4 c5 c6 c7 c8 c9 c10 c11 c12 c13 (l.map Ec) :: Hz c0 c1 c2 c3 c4 c5 c6 c7 c8 c9 c10 c11 c12 c13 (l.map Ec) :: rest)=bx at *;simp only [S9,A6,seval,CZ,Aw,Gj,Cw,K5,Ab5,e2,e3,el,ei,hi];generalize hE:vL _ _=z
  have hP:∃ E f,z=some (.normal,Ik E bx i (l.map Ec) [.int .i64 pk,.int .i64 dv,.str cl,.str at_,.str pn,.int .i64 xk,.int .i64 xn,.int .i64 xm,.str xnm,.int .i64 xv.1,.int .i64 xv.2.1,.str xv.2.2,.int .i64 xkey.1,.str xkey.2.1,.str xkey.2.2,.sl ys] f)/\getT E 2=.bp 0 0/\getT E 3=.bp 1 0/\getT E 5=.int .i64 i/\getT E 47=.int .i64 l.length/\getT E 48=.int .i64 i/\∀ t,(getT E t).under (rest.length+2)=true:=by
   rw [<- hE];refine ⟨_,Exists.elim (hd _ ?_ ?_ ?_ ?_) (fun f hf=>⟨f,hf,?_,?_,?_,?_,?_,?_⟩)⟩
   · simp only [S7,A6,seval,e2]
   · simp only [S7,A6,seval,e3]
   · simp only [S7,A6,seval]
   · exact Eg (Eg (Eg hu rfl) rfl) rfl
   · simp only [S7,A6,seval,e2]
   · simp only [S7,A6,seval,e3]
   · simp only [S7,A6,seval]
   · simp only [S7,A6,seval,el]
   · simp only [S7,A6,seval,ei]
   · exact Eg (Eg (Eg hu rfl) rfl) rfl
  obtain ⟨E0,f,rfl,g2,g3,g5,g47,g48,gu⟩:=hP;clear hE hd;obtain ⟨E,B,i6,i7,qJ,z6,z7,b6,b7,l6,l7,hB,wj,hEu⟩:=ia E0 bx i (l.map Ec) [.int .i64 pk,.int .i64 dv,.str cl,.str at_,.str pn,.int .i64 xk,.int .i64 xn,.int .i64 xm,.str xnm,.int .i64 xv.1,.int .i64 xv.2.1,.str xv.2.2,.int .i64 xkey.1,.str xkey.2.1,.str xkey.2.2,.sl ys] f;rw [qJ];have y2:=(wj 2 (by omega) (by omega) (by omega)).trans g2;have y3:=(wj 3 (by omega) (by omega) (by omega)).trans g3;have y5:=(wj 5 (by omega) (by omega) (by omega)).trans g5;have y47:=(wj 47 (by omega) (by omega) (by omega)).trans g47;have y48:=(wj 48 (by omega) (by omega) (by omega)).trans g48;have hlen:bx.length=rest.length+2:=by rw [<- Kf];rfl
  have yu:=hEu (rest.length+2+2) (by omega) (by omega) hds vI (fun t=>under_mono (by omega) _ (gu t));have hB2:B=Hz c0 c1 c2 c3 c4 c5 c6 c7 c8 c9 c10 c11 c12 c13 (l.map Ec) :: Hz c0 c1 c2 c3 c4 c5 c6 c7 c8 c9 c10 c11 c12 c13 (l.map Ec) :: (rest++[.cells 60 [.int .i64 pk,.int .i64 dv,.str cl,.str at_,.str pn,.int .i64 xk,.int .i64 xn,.int .i64 xm,.str xnm,.int .i64 xv.1,.int .i64 xv.2.1,.str xv.2.2,.int .i64 xkey.1,.str xkey.2.1,.str xkey.2.2,.sl ys],.cells 60 [.int .i64 pk,.int .i64 dv,.str cl,.str at_,.str pn,.int .i64 xk,.int .i64 xn,.int .i64 xm,.str xnm,.int .i64 xv.1,.int .i64 xv.2.1,.str xv.2.2,.int .i64 xkey.1,.str xkey.2.1,.str xkey.2.2,.sl ys]]):=by rw [hB,<- Kf];rfl
  have zi:∀ b ∈ B,b.under (rest.length+2+2)=true:=by
   intro b hm;rw [hB] at hm;rcases List.mem_append.1 hm with hm | hm
   · exact PBox.under_mono (by omega) b (hb b hm)
   · have hx:b=.cells 60 [.int .i64 pk,.int .i64 dv,.str cl,.str at_,.str pn,.int .i64 xk,.int .i64 xn,.int .i64 xm,.str xnm,.int .i64 xv.1,.int .i64 xv.2.1,.str xv.2.2,.int .i64 xkey.1,.str xkey.2.1,.str xkey.2.2,.sl ys]:=by simpa using hm
     rw [hx];exact Ay _ _ vI
  rw [hlen] at l6 l7;have cM:∀ n,Ar n ys=true:=fun n=>Ay n ys eX;clear hB wj hEu qJ g2 g3 g5 g47 g48 gu hb hu;simp only [S9,A6,seval,CZ,Aw,Gj,Cw,K5,Ab5,y2,y3,y5,y47,y48,z6,z7,b6,b7,h1,h4,h6,Bb,eX,I5,PV.pure,Ak,Ac3];rw [hB2] at zi |-;refine key _ _ ?_ ?_ ?_ ?_ ?_ ?_
  · simp only [S7,A6,seval,y2]
  · simp only [S7,A6,seval,y3]
  · simp only [S7,A6,seval,y47]
  · simp only [S7,A6,seval]
  · rw [Aav]
    have hb6:∀ off,(PV.bp i6 off).under (rest.length+2+2)=true:=fun off=>decide_eq_true (by omega);have hb7:∀ off,(PV.bp i7 off).under (rest.length+2+2)=true:=fun off=>decide_eq_true (by omega);show ∀ t,_=true
    repeat' (first | with_reducible exact yu | with_reducible refine Eg ?_ ?_)
    all_goals first | rfl | exact hb6 _ | exact hb7 _ | (simp only [PV.under,Ar,cM,Ab4];done) | exact yu
  · rw [Aav]
    exact zi
theorem qf (l:List Sp):(l.map Ec).length=l.length:=Ab7 ..
def ib (r:Rl):Prop:=r.on.length<=100/\r.dos.length<=100/\FM r.ife/\∀ x ∈ r.dos,FM x.ex
theorem qg (r:Rl) (hs:ib r):∃ bx,Ad CC 54 [Dw r,Dw r] []=some (.ret (.bool true),bx):=by
 obtain ⟨s1,s2,s3,s4⟩:=hs;obtain ⟨nm,pr,on,ife,dos⟩:=r;simp only at s1 s2 s3 s4;have Bb:=Nx ife s3;have hop1:=tw on s1;have Xx:Ak (on.map BE)=true:=map_pure BE K2 on;have ZF:Ak (dos.map Ec)=true:=map_pure Ec Hp dos;have Im:=qf dos;unfold Dw Vx;obtain ⟨xk,xn,xm,xnm,xv,xkey,xkids⟩:=ife;have h1:∀ z:Int,(z != z)=false:=fun z=>by simp
 have h4:ED .neq nm nm=some (.bool false):=by rw [DB];simp
 unfold Bw at Bb |-;have eX:=AW xkids;generalize A1 xkids=ys at *;generalize on.map BE=os at *;simp only [PV.cells,Abc,Ab2];have cF:∀ n,Ar n (dos.map Ec)=true:=fun n=>Ay n _ ZF;have zD:∀ n,Ar n ys=true:=fun n=>Ay n _ eX;have zE:∀ n,Ar n os=true:=fun n=>Ay n _ Xx;have Ag:=fun e h2 h3 h47 zu hu hb=>qe _ rfl (.str nm) (.int .i64 pr) (.sl os) (.int .i64 xk) (.int .i64 xn) (.int .i64 xm) (.str xnm) (.int .i64 xv.1) (.int .i64 xv.2.1) (.str xv.2.2) (.int .i64 xkey.1) (.str xkey.2.1) (.str xkey.2.2) (.sl ys) dos s2 s4 dos.length 0 e [] (by omega) h2 h3 h47 zu hu hb;rw [CN (fn:=Ab8) (c:=Ab8.body.getD .skip) rfl rfl tB rfl tA tz (Aax rfl)];generalize dos.map Ec=ds at *;unfold Hz at Ag;rw [<- Ch] at Ag |-;rw [<- C3] at Bb hop1;simp only [Aa,Ac,Ab8,Aaw] at Ag |-;simp only [S9,A6,seval,CZ,Aw,Gj,Cw,K5,Ab5,h1,h4,Bb,hop1,eX,Xx,ZF,PV.pure,Ak,Ac3];generalize hE:Tm (Aby _) _=z
 have hP:∃ e' bx',z=some (.exit 0,⟨e',bx'⟩):=by
  rw [<- hE];refine Ag _ ?_ ?_ ?_ ?_ ?_ ?_
  · simp only [S7,A6,seval]
  · simp only [S7,A6,seval]
  · simp only [S7,A6,seval,Im]
  · first | (simp only [S7,A6,seval];done) | (simp only [S7,A6,seval] <;> rfl)
  · repeat' (with_reducible refine Eg ?_ ?_)
    all_goals first | rfl | (simp only [PV.under,Ar,cF,zD,zE,Ab4,Ab6];done) | skip
    · intro t
      match t with
      | 0=>simp only [getT,Abt,PV.under,Ar,cF,zD,zE,Ab4,Ab6]
      | 1=>simp only [getT,Abt,List.getD_cons_succ,PV.under,Ar,cF,zD,zE,Ab4,Ab6]
      | t+2=>rfl
  · intro b hb
    have hb:b=PBox.cells 32 [.str nm,.int .i64 pr,.sl os,.int .i64 xk,.int .i64 xn,.int .i64 xm,.str xnm,.int .i64 xv.1,.int .i64 xv.2.1,.str xv.2.2,.int .i64 xkey.1,.str xkey.2.1,.str xkey.2.2,.sl ys,.sl ds]:=by simpa using hb
    rw [hb];simp only [PBox.under,PV.under,Ar,cF,zD,zE,Ab4,Ab6]
 obtain ⟨e',bx',he⟩:=hP;subst he;simp only [S9,A6,seval,CZ,Aw,Gj,Cw,K5,Ab5,h1];exact ⟨_,rfl⟩
theorem yx (r:Rl) (hs:ib r) (bx):Ai CC (Ad CC) 54 [Dw r,Dw r] bx=some (.ret (.bool true),bx):=by
 obtain ⟨q,hq⟩:=qg r hs;exact Ao rfl (by simp only [AK,IU,Bk,Ab6]) hq rfl
theorem mF (L:Code) (hL:L=Aa Abb [1,1,0,1,0]) (l:List Rl) (hl:l.length<=100) (hs:∀ x ∈ l,ib x):∀ (k i:Nat) (e:List PV) (bx:List PBox),i+k=l.length->getT e 0=.sl (l.map Dw)->getT e 1=.sl (l.map Dw)->getT e 12=.int .i64 l.length->getT e 13=.int .i64 i->∃ e' bx',Cf CC L ⟨e,bx⟩=some (.exit 0,⟨e',bx'⟩):=by
 intro k
 induction k with
 | zero=>
  intro i e bx DK e0 e1 el ei;rw [AX (Aa Abb [1,1,0,1,0,0]) hL];have hi:¬ ((i:Int) < (l.length:Int)):=by omega
  generalize l.map Dw=xs at *;rw [<- Al];simp only [Aa,Ac,Abb,Aaw];simp only [S9,Af,seval,CZ,Aw,Gj,Cw,K5,Ab5,e0,e1,el,ei,hi];exact ⟨_,_,rfl⟩
 | succ k ih=>
  intro i e bx DK e0 e1 el ei;rw [AX (Aa Abb [1,1,0,1,0,0]) hL];have hi:((i:Int) < (l.length:Int)):=by omega
  have C4:¬ ((i:Int) < 0):=by omega
  have hx:l[i]?=some (l[i]'(by omega)):=by simp
  have Gz:(l.map Dw)[i]?=some (Dw (l[i]'(by omega))):=by rw [Abi,hx];rfl
  have Bb:=yx (l[i]'(by omega)) (hs _ (Abv _));have Tj:=IU (l[i]'(by omega));generalize l[i]'(by omega)=x at *;have I5:=wrap_i64 (n:=(i:Int)+1) ⟨by omega,by omega⟩;have key:=fun e bx=>ih (i+1) e bx (by omega);have cast1:((i+1:Nat):Int)=(i:Int)+1:=by omega
  rw [cast1] at key;obtain ⟨nm,pr,on,ife,dos⟩:=x;generalize l.map Dw=xs at *;unfold Dw Vx at Gz Bb Tj;obtain ⟨xk,xn,xm,xnm,xv,xkey,xkids⟩:=ife;unfold Bw at Gz Bb Tj;simp only [PV.cells,Abc,Ab2] at Gz Bb Tj;generalize A1 xkids=ys at *;generalize on.map BE=os at *;generalize dos.map Ec=ds at *;simp only [PV.pure,Ak,Ab9,Ab4,Abq] at Tj;obtain ⟨p1,p2,p3⟩:=Tj;rw [<- Al];rw [<- Al] at key;rw [<- AI] at Bb;simp only [Aa,Ac,Abb,Aaw];simp only [S9,Af,seval,CZ,Aw,Gj,Cw,K5,Ab5,e0,e1,el,ei,hi,C4,Gz,I5,Bb,p1,p2,p3,PV.pure,Ak];refine key _ _ ?_ ?_ ?_ ?_
  all_goals simp only [S7,Af,seval,e0,e1,el,ei]
theorem mG (l:List Rl) (hl:l.length<=100) (hs:∀ x ∈ l,ib x):∃ bx,Ad CC 25 [.sl (l.map Dw),.sl (l.map Dw)] []=some (.ret (.bool true),bx):=by
 have Ag:=fun L hL e bx=>mF L hL l hl hs l.length 0 e bx (by omega);have Im:(l.map Dw).length=l.length:=Ab7 ..;rw [<- Im] at Ag;generalize l.map Dw=xs at *;have h7:((xs.length:Int) != (xs.length:Int))=false:=by simp
 rw [Ah (fn:=Abb) (c:=Abb.body.getD .skip) rfl rfl NN rfl OX (Aax rfl)];rw [<- Al];rw [<- Al] at Ag;simp only [Aa,Ac,Abb,Aaw];simp only [S9,Af,seval,CZ,Aw,Gj,Cw,K5,Ab5,h7];generalize hE:GM (Aby _) _=z
 have hP:∃ e' bx',z=some (.exit 0,⟨e',bx'⟩):=by
  rw [<- hE];refine Ag _ rfl _ _ ?_ ?_ ?_ ?_
  all_goals first | (simp only [S7,Af,seval];done) | (simp only [S7,Af,seval] <;> rfl)
 obtain ⟨e',bx',he⟩:=hP;subst he;simp only [S8,Af,seval];exact ⟨_,rfl⟩
theorem uM (l:List Rl) (hl:l.length<=100) (hs:∀ x ∈ l,ib x) (bx):Ai CC (Ad CC) 25 [.sl (l.map Dw),.sl (l.map Dw)] bx=some (.ret (.bool true),bx):=by
 obtain ⟨q,hq⟩:=mG l hl hs;exact Ao rfl (by rw [AK,AK,K3 l] <;> rfl) hq rfl
end Go.HH
