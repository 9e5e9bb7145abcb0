/-
  What the law needs, packed: RY UA UB UC UD UE E0 VB VQP VDP V11Q T1 E3 T2 T3 T4 T5 T6.
-/
import Derived.Test.YthjcaihemgllaaaGreatDoorK44
open List renaming getElem?_concat_length->Aau,length_singleton->Aav,length_append->Ab0,length_cons->Ab2,length_nil->Ab8,getD_eq_getElem?_getD->Ab9,mem_singleton->Abi,getElem_mem->Abl,mem_append->Abm,getElem?_eq_getElem->Abn,mem_range->Abr,mem_cons->Abs,range->Abu
open Option renaming getD->Aaw
open Nat renaming le_of_ble_eq_true->Aax,zero_le->Abh,le_refl->Abt
open Int renaming reduceEq->Aay
open Go.Proofs.Tryz renaming f37->Aaz,f120->Ab1,f70->Ab3,f71->Ab6,f74->Ab7,f68->Abb,f23->Abc,f73->Abd,f69->Abe,f122->Abf,f121->Abg,f83->Abj,f72->Abk
open Bool renaming and_self->Ab4,and_true->Abo,not_not->Abp
open Go.Lib renaming itoa->Ab5,nDigits->Aba,nDigits_small->Abq
namespace Go.HH
open Go Go.Proofs
set_option maxRecDepth 100000
set_option linter.unusedVariables false
theorem QM {α:Type} {t:Nat} {e:Int}:(PR.bad t e:PR α)≠.out:=fun e=>nomatch e
def bF (L:List Tk):Nat:=12 * L.length+10
theorem Mn {L:List Tk} (hT:TokOK L) {i:Nat} (hi:i < L.length):Ey L (bF L) i≠.out:=by
 unfold Ey;refine Az (kR hT _ _ _ _ hi (by unfold bF;have:KZ .expr=10:=rfl;omega)) fun a j _=>?_;split
 · exact Ba
 · exact QM
theorem WZ {L:List Tk} (hT:TokOK L) {i:Nat} (hi:i < L.length):BQ L i≠.out:=by
 unfold BQ;split
 · exact Az IP fun _ _ _=>Ba
 split
 · exact Az IP fun _ _ _=>Ba
 split
 · rename_i hk
   refine Az Mm fun _ j r=>?_;split
   · rename_i ZU
     exact Az (Vz hT (AO hT (F9 hT (AO hT hi hk (by decide)) r).2.1 ZU (by decide))) fun _ _ _=>Ba
   · exact Ba
 split
 · split
   · exact Az Ga fun _ _ _=>Ba
   · exact Ba
 split
 · exact Ba
 · exact Az B4 fun _ _ _=>Az K0 fun _ _ _=>Ba
theorem gI {L:List Tk} (hT:TokOK L) {i:Nat} (hi:i < L.length):Ed L (bF L) i≠.out:=by
 unfold Ed;split
 · rename_i hk
   have h0:=AO hT hi hk (by decide);refine Az IP fun _ j r=>Az B4 fun _ j2 r2=>?_;have h1:=(Eb hT h0 r).2.1;exact Az (Mn hT (A4 hT h1 (by decide) r2).2) fun _ _ _=>Ba
 split
 · rename_i hk
   have h0:=AO hT hi hk (by decide);refine Az IP fun _ j r=>?_;have h1:=(Eb hT h0 r).2.1;split
   · rename_i ZU
     exact Az (Mn hT (AO hT h1 ZU (by decide))) fun _ _ _=>Az B4 fun _ _ _=>Ba
   · exact Ba
 split
 · exact Az Ga fun _ _ _=>Ba
 split
 · exact Az Ga fun _ _ _=>Ba
 · exact Az B4 fun _ _ _=>Az kO fun _ _ _=>Ba
theorem Nw {α:Type} {L:List Tk} (hT:TokOK L) {w:List UInt8} {part:Nat->PR α} (hp:∀ i,i < L.length->part i≠.out) (BC:∀ i a j,i < L.length->part i=.ok a j->j < L.length):∀ (m:Nat) (acc:List α) (i:Nat),i < L.length->acc.length<=8->9<=acc.length+m->BI L w part m acc i≠.out:=by
 intro m
 induction m with
 | zero=>intro acc i hi h1 h2;omega
 | succ m ih=>
  intro acc i hi h1 h2;rw [BI];split
  · split
    · exact QM
    · refine Az B4 fun _ j r=>?_
      have h3:=(A4 hT hi (by decide) r).2;refine Az (hp _ h3) fun a j2 r2=>Az B4 fun _ j3 r3=>?_;have h4:=BC _ _ _ h3 r2;exact ih _ _ (A4 hT h4 (by decide) r3).2 (by rw [Ab0,Aav];omega) (by rw [Ab0,Aav];omega)
  · exact Ba
theorem gJ {L:List Tk} (hT:TokOK L) (rs:List Rl) {i:Nat} (hi:i < L.length):LY L (bF L) rs i≠.out:=by
 unfold LY;split
 · exact QM
 refine Az B4 fun _ i0 r0=>Az Ga fun nm i1 r1=>?_;have h0:=(A4 hT hi (by decide) r0).2;have h1:=(C1 hT h0 r1).2;split
 · exact QM
 refine Az ?_ fun pr i2 r2=>Az B4 fun _ i3 r3=>?_
 · split
   · exact K0
   · exact Ba
 have h2:i2 < L.length:=by
  split at r2
  · rename_i hk
    exact (GN hT (AO hT h1 hk (by decide)) r2).2.1
  · injection r2 with _ r2
    exact r2 ▸ h1
 have h3:=(A4 hT h2 (by decide) r3).2;refine Az (Nw hT (fun i hi=>WZ hT hi) (fun i a j hi h=>Gl hT hi h) _ _ _ h3 (by simp) (by simp)) fun on i4 r4=>?_;have h4:=Gm hT (fun i a j hi h=>Gl hT hi h) _ _ _ _ _ h3 (by simp) r4;refine Az ?_ fun e i5 r5=>?_
 · split
   · rename_i hk
     exact Az (Mn hT (AO hT h4.1 hk (by decide))) fun _ _ _=>Az B4 fun _ _ _=>Ba
   · exact Ba
 have h5:i5 < L.length:=by
  split at r5
  · rename_i hk
    obtain ⟨_,i6,r6,r7⟩:=Aq r5;obtain ⟨_,i8,r8,r9⟩:=Aq r7;have h6:=F' hT (AO hT h4.1 hk (by decide)) r6;have h8:=(A4 hT h6.2 (by decide) r8).2;injection r9 with _ r9
    exact r9 ▸ h8
  · injection r5 with _ r5
    exact r5 ▸ h4.1
 exact Az (Nw hT (fun i hi=>gI hT hi) (fun i a j hi h=>Nv hT hi h) _ _ _ h5 (by simp) (by simp)) fun _ _ _=>Az B4 fun _ _ _=>Ba
theorem bG {L:List Tk} (hT:TokOK L):∀ (m:Nat) (rs:List Rl) (i:Nat),i < L.length->rs.length<=40->42<=rs.length+m->Fy L (bF L) m rs i≠.out:=by
 intro m
 induction m with
 | zero=>intro rs i hi h1 h2;omega
 | succ m ih=>
  intro rs i hi h1 h2;rw [Fy];split
  · exact Ba
  · refine Az (gJ hT rs hi) fun r j hr=>?_
    have h3:=YW hT hi hr;exact ih _ _ h3.1 (by rw [Ab0,Aav];omega) (by rw [Ab0,Aav];omega)
def Jw (s:List UInt8):List Rl×Nat×Int:=if (BH s).2.2=0 then (match Fy (BH s).1 (bF (BH s).1) 42 [] 0 with
 | .ok l _=>(l,0,0)
 | .bad t c=>([],t,c)
 | .out=>([],0,0)) else ([],(BH s).2.1,(BH s).2.2)
section
variable {f:Nat->Nat} {L:List Tk}
end
def xC (x y:Tk):Prop:=(x.1=y.1/\x.2.1=y.2.1)\/(x.1=0/\y.1=4/\y.2.1=[41])
def kS (L M:List Tk) (s j:Nat):Prop:=∀ k,k<=j->xC (tokAt L k) (tokAt M (k+s))
theorem kS.mono {L M:List Tk} {s j j':Nat} (h:kS L M s j) (hj:j'<=j):kS L M s j':=fun k hk=>h k (Nat.le_trans hk hj)
section
variable {L M:List Tk} {s:Nat}
end
set_option linter.unusedSimpArgs false
section
variable (p t:List UInt8)
end
section
variable (s t:List UInt8)
theorem dQ {s:List UInt8} (h:s.length<=20000):BH s=tk s (sk s 0) []:=by unfold BH;rw [if_neg (by omega)];rfl
end
theorem bH (s:List UInt8) (i k:Nat):((s.take k).drop i).length<=s.length:=by
 rw [List.length_drop,List.length_take];omega
theorem oX {s:List UInt8} {i:Nat} {t:Tk} {k:Nat} (ho:FJ s i=.inl (t,k)):t.2.2=i/\(t.1=3\/t.2.1.length<=s.length):=by
 unfold FJ at ho;simp only at ho;split at ho
 · injection ho with ho
   injection ho with h1 h2
   subst h1;exact ⟨rfl,.inr (bH s _ _)⟩
 · split at ho
   · split at ho
     · injection ho with ho
       injection ho with h1 h2
       subst h1;exact ⟨rfl,.inr (bH s _ _)⟩
     · cases ho
   · split at ho
     · split at ho
       · injection ho with ho
         injection ho with h1 h2
         subst h1;exact ⟨rfl,.inl rfl⟩
       · cases ho
     · split at ho
       · cases ho
       · injection ho with ho
         injection ho with h1 h2
         subst h1;exact ⟨rfl,.inr (bH s _ _)⟩
theorem xD (s:List UInt8):∀ (d i:Nat) (acc:List Tk),s.length - i<=d->i<=s.length->(tk s i acc).2.1<=s.length/\∀ x ∈ (tk s i acc).1,x ∈ acc\/(x.2.2<=s.length/\(x.1=3\/x.2.1.length<=s.length)):=by
 have ni:∀ i acc,i<=s.length->¬ i < s.length->(tk s i acc).2.1<=s.length/\∀ x ∈ (tk s i acc).1,x ∈ acc\/(x.2.2<=s.length/\(x.1=3\/x.2.1.length<=s.length)):=fun i acc h hc=>by
  rw [R1 _ h,if_neg hc];refine ⟨Abh _,fun x hx=>?_⟩;rcases Abm.1 hx with hx | hx
  · exact .inl hx
  · rw [Abi] at hx
    subst hx;exact .inr ⟨Abt _,.inr (Abh _)⟩
 intro d
 induction d with
 | zero=>intro i acc h hl;exact ni i acc hl (by omega)
 | succ d ih=>
  intro i acc h hl;by_cases c:i < s.length
  · rw [R1 _ hl,if_pos c]
    split
    · exact ⟨hl,fun x hx=>by cases hx⟩
    · cases ho:FJ s i with
      | inr e=>exact ⟨hl,fun x hx=>by cases hx⟩
      | inl y=>
       obtain ⟨x,k⟩:=y;have ZP:=Na c ho;have hle:=Vq ZP.2;obtain ⟨g1,g2⟩:=oX ho;obtain ⟨f1,f2⟩:=ih (sk s k) (acc++[x]) (by omega) hle.2;refine ⟨f1,fun z hz=>?_⟩;rcases f2 z hz with hz | hz
       · rcases Abm.1 hz with hz | hz
         · exact .inl hz
         · rw [Abi] at hz
           subst hz;exact .inr ⟨by omega,g2⟩
       · exact .inr hz
  · exact ni i acc hl c
theorem oY (s:List UInt8) (hs:s.length<=20000):(BH s).2.1<=s.length/\∀ x ∈ (BH s).1,x.2.2<=s.length/\(x.1=3\/x.2.1.length<=s.length):=by
 rw [dQ hs];have hle:=Vq (s:=s) (i:=0) (by omega);obtain ⟨h1,h2⟩:=xD s s.length (sk s 0) [] (by omega) hle.2;exact ⟨h1,fun x hx=>(h2 x hx).resolve_left (fun h=>by cases h)⟩
theorem Sn:∀ {r:List Tk},On r->∀ x ∈ r,dh x
 | [],_,_,h=>by cases h
 | y :: r,hc,x,h=>by
  rcases Abs.1 h with rfl | h
  · exact hc.1
  · exact Sn hc.2.2 x h
theorem Y0:∀ (w:List UInt8) (n:Nat),n<=1099511627776->(RQ w n).isSome=true->amtN w n<=1099511627776
 | [],n,h,_=>h
 | c :: r,n,h,hs=>by
  unfold RQ at hs;split at hs
  · cases hs
  · rename_i h1
    exact Y0 r (10 * n+(c.toNat - 48)) (by omega) hs
theorem gK {L:List Tk} (i:Nat):tokAt L i ∈ L\/tokAt L i=(0,[],0):=by
 unfold tokAt;rw [Ab9];cases h:L[i]? with
 | none=>exact .inr rfl
 | some x=>exact .inl (List.mem_of_getElem? h)
theorem bI (s:List UInt8) (hs:s.length<=20000) (h0:(BH s).2.2=0):∃ r,BH s=(r++[(0,[],s.length)],0,0)/\On r/\r.length<=s.length:=by
 have hle:=Vq (s:=s) (i:=0) (by omega);rw [dQ (by omega)] at h0 |-;obtain ⟨r,g1,g2,g3,g4,_⟩:=gg s s.length (sk s 0) [] (by omega) hle.2 (di s _ 0 (Abt _) (by omega)) h0;rw [List.nil_append] at g1;exact ⟨r,g1,g2,by omega⟩
theorem kT {s:List UInt8} (hs:s.length<=20000) {r:List Tk} (h:BH s=(r++[(0,[],s.length)],0,0)) (hc:On r) (hr:r.length<=s.length):TokOK (r++[(0,[],s.length)]):=by
 have Ht:=(oY s (by omega)).2;rw [h] at Ht;have hlen:(r++[(0,[],s.length)]).length=r.length+1:=by rw [Ab0];rfl
 have hg:=Sn hc
 have ZN:∀ x ∈ r++[(0,[],s.length)],x.1=0/\x.2.1=[]\/dh x:=fun x hx=>by
  rcases Abm.1 hx with hx | hx
  · exact .inr (hg x hx)
  · rw [Abi] at hx
    subst hx;exact .inl ⟨rfl,rfl⟩
 have D1:∀ i,tokAt (r++[(0,[],s.length)]) i=(0,[],0)\/(tokAt (r++[(0,[],s.length)]) i ∈ r++[(0,[],s.length)]):=fun i=>(gK i).symm;have hl:(r++[((0,[],s.length):Tk)]).length<=4001:=by have:=jU s;rw [h] at this;exact this
 refine ⟨hl,by omega,?_,fun i hi=>?_,fun i=>?_,fun i=>?_,fun i h3=>?_,fun i h2=>?_⟩
 · rw [hlen]
   unfold tokAt;rw [Ab9,List.getElem?_append_right (by omega),show r.length+1 - 1 - r.length=0 from by omega];rfl
 · have Gu:i < r.length:=by omega
   have:tokAt (r++[(0,[],s.length)]) i ∈ r:=by
    unfold tokAt;rw [Ab9,List.getElem?_append_left Gu,Abn Gu];exact Abl Gu
   rcases hg _ this with h | h | h | h <;> (rw [h.1];decide)
 · unfold atT
   rcases D1 i with h | h
   · rw [h];exact Abh _
   · have:=(Ht _ h).1;omega
 · rcases D1 i with h | h
   · rw [h];exact Abh _
   · rcases (Ht _ h).2 with h3 | h3
     · rcases ZN _ h with h4 | h4 | h4 | h4 | h4
       · rw [h4.2];exact Abh _
       · rw [h4.1] at h3;cases h3
       · rw [h4.1] at h3;cases h3
       · omega
       · rw [h4.1] at h3;cases h3
     · omega
 · rcases D1 i with h | h
   · rw [h] at h3;cases h3
   · rcases ZN _ h with h4 | h4 | h4 | h4 | h4
     · rw [h4.1] at h3;cases h3
     · rw [h4.1] at h3;cases h3
     · rw [h4.1] at h3;cases h3
     · exact h4.2
     · rw [h4.1] at h3;cases h3
 · rcases D1 i with h | h
   · rw [h] at h2;cases h2
   · rcases ZN _ h with h4 | h4 | h4 | h4 | h4
     · rw [h4.1] at h2;cases h2
     · rw [h4.1] at h2;cases h2
     · refine ⟨fun b hb=>?_,Y0 _ 0 (by omega) h4.2.2.2⟩
       have:=h4.2.2.1 b hb;unfold dg at this;simpa using this
     · rw [h4.1] at h2;cases h2
     · rw [h4.1] at h2;cases h2
theorem So (s:List UInt8) (hs:s.length<=20000) (h0:(BH s).2.2=0):TokOK (BH s).1:=by
 obtain ⟨r,h1,h2,h3⟩:=bI s hs h0;have:=kT hs h1 h2 h3;rw [h1];exact this
theorem Sq (s:List UInt8) (hs:s.length<=20000) (bx:List PBox):Ai CC (Ad CC) 24 [.str s] bx=some (.ret (.tup [.sl ((Jw s).1.map DS),.int .i64 ((Jw s).2.1:Int),.int .i64 (Jw s).2.2]),bx):=by
 have h:Ad CC 24 [.str s] []=some (.ret (.tup [.sl ((Jw s).1.map DS),.int .i64 ((Jw s).2.1:Int),.int .i64 (Jw s).2.2]),[]):=by
  unfold Jw;by_cases h0:(BH s).2.2=0
  · rw [if_pos h0]
    have hT:=So s hs h0;have hw:=bG hT 42 [] 0 hT.pos (by simp) (by simp);cases hr:Fy (BH s).1 (bF (BH s).1) 42 [] 0 with
    | out=>exact absurd hr hw
    | bad t c=>
     rw [Sl s (by omega) h0 hT _ _ hr];rfl
    | ok l j=>
     cases l with
     | nil=>
      rw [Sm s (by omega) h0 hT _ _ hr];rfl
     | cons x rs=>
      rw [Qi s (by omega) h0 hT _ _ hr];rfl
  · rw [if_neg h0,Sk s (by omega) h0]
    rfl
 refine Ao rfl (by simp only [SA,Abo]) h ?_;simp only [PV.pure,Ak,map_pure DS Fx,Abo]
set_option maxHeartbeats 4000000
def rl (t:Tr):Prop:=∃ bx,Ad CC 23 [Bw t,Bw t] []=some (.ret (.bool true),bx)
theorem rm {t:Tr} (h:rl t) (bx):Ai CC (Ad CC) 23 [Bw t,Bw t] bx=some (.ret (.bool true),bx):=by
 obtain ⟨q,hq⟩:=h;exact Ao rfl (by simp only [AK,Bz,Bk,Ab4]) hq rfl
theorem oZ (L:Code) (hL:L=Aa Abc [1,1,0,1,0]) (a0 a1 a2 a3 a4 a5 a6 a7 a8 a9:PV) (l:List Tr) (hl:l.length<=12) (hk:∀ t ∈ l,rl t):∀ (k i:Nat) (e:List PV),i+k=l.length->getT e 2=.bp 0 0->getT e 3=.bp 1 0->getT e 5=.int .i64 i->∃ e' bx',Cf CC L ⟨e,[.cells 29 [a0,a1,a2,a3,a4,a5,a6,a7,a8,a9,.sl (A1 l)],.cells 29 [a0,a1,a2,a3,a4,a5,a6,a7,a8,a9,.sl (A1 l)]]⟩=some (.exit 0,⟨e',bx'⟩):=by
 intro k
 induction k with
 | zero=>
  intro i e DK e2 e3 e5;rw [AX (Aa Abc [1,1,0,1,0,0]) hL];have hi:¬ ((i:Int) < (l.length:Int)):=by omega
  have Im:=Cv l;generalize A1 l=xs at *;rw [<- Al];simp only [Aa,Ac,Abc,Aaw];simp only [S9,Af,seval,CZ,Aw,Gj,Cw,Abp,e2,e3,e5,Im,hi];exact ⟨_,_,rfl⟩
 | succ k ih=>
  intro i e DK e2 e3 e5;rw [AX (Aa Abc [1,1,0,1,0,0]) hL];have hi:((i:Int) < (l.length:Int)):=by omega
  have C4:¬ ((i:Int) < 0):=by omega
  have hx:l[i]?=some (l[i]'(by omega)):=by simp
  have EC:rl (l[i]'(by omega)):=hk _ (Abl _);generalize l[i]'(by omega)=x at *;have Gz:=MS hx;have Im:=Cv l;have I5:=wrap_i64 (n:=(i:Int)+1) ⟨by omega,by omega⟩;have key:=fun e=>ih (i+1) e (by omega);have cast1:((i+1:Nat):Int)=(i:Int)+1:=by omega
  rw [cast1] at key;have Bb:=rm EC;obtain ⟨xk,xn,xm,xnm,xv,xkey,xkids⟩:=x;unfold Bw at Gz Bb;have eX:=AW xkids;generalize A1 xkids=ys at *;generalize A1 l=xs at *;rw [<- Al];rw [<- Al] at key;rw [<- AI] at Bb;simp only [Aa,Ac,Abc,Aaw];simp only [S9,Af,seval,CZ,Aw,Gj,Cw,Abp,e2,e3,e5,Im,hi,C4,Gz,I5,Bb,eX,PV.pure,Ak];refine key _ ?_ ?_ ?_
  all_goals simp only [S7,Af,seval,e2,e3,e5]
theorem o9 (k n m:Int) (nm:List UInt8) (v:Vl) (key:Ky) (kids:List Tr) (qK:kids.length<=12) (hk:∀ t ∈ kids,rl t):rl (.mk k n m nm v key kids):=by
 obtain ⟨vk,vn,vs⟩:=v;obtain ⟨dv,cl,at_⟩:=key;have h1:∀ z:Int,(z != z)=false:=fun z=>by simp
 have h4:ED .neq nm nm=some (.bool false):=by rw [DB];simp
 have h5:Mx CC 100 24 (.agg [.int .i64 vk,.int .i64 vn,.str vs]) (.agg [.int .i64 vk,.int .i64 vn,.str vs])=some true:=by rw [oh];simp
 have h6:Mx CC 100 26 (.agg [.int .i64 dv,.str cl,.str at_]) (.agg [.int .i64 dv,.str cl,.str at_])=some true:=by rw [fP];simp
 have Im:=Cv kids;have Ag:=fun L hL a0 a1 a2 a3 a4 a5 a6 a7 a8 a9 e=>oZ L hL a0 a1 a2 a3 a4 a5 a6 a7 a8 a9 kids qK hk kids.length 0 e (by omega);unfold rl Bw;generalize A1 kids=xs at *;rw [Ah (fn:=Abc) (c:=Abc.body.getD .skip) rfl rfl WQ rfl YP (Aax rfl)];rw [<- Al];rw [<- Al] at Ag;simp only [Aa,Ac,Abc,Aaw];simp only [S9,Af,seval,CZ,Aw,Gj,Cw,Abp,h1,h4,h5,h6];generalize hE:GM (Code.loop _) _=z
 have hP:∃ e' bx',z=some (.exit 0,⟨e',bx'⟩):=by
  rw [<- hE];refine Ag _ rfl _ _ _ _ _ _ _ _ _ _ _ ?_ ?_ ?_
  all_goals first | (simp only [S7,Af,seval];done) | (simp only [S7,Af,seval] <;> rfl)
 obtain ⟨e',bx',he⟩:=hP;subst he;simp only [S8,Af,seval];exact ⟨_,rfl⟩
mutual
theorem dR (t:Tr) (hs:FM t):rl t:=by
 match t,hs with
 | .mk k n m nm v key kids,hs=>
  have h2:DC kids:=by unfold FM at hs;exact hs.2
  exact o9 k n m nm v key kids (by unfold FM at hs;exact hs.1.2.2.2.2) (Y1 kids h2)
theorem Y1 (l:List Tr) (hs:DC l):∀ t ∈ l,rl t:=by
 match l,hs with
 | [],_=>intro t ht;simp at ht
 | x :: r,hs=>
  intro t ht;unfold DC at hs;rcases Abs.1 ht with h | h
  · rw [h];exact dR x hs.1
  · exact Y1 r hs.2 t h
end
theorem Nx (t:Tr) (hs:FM t) (bx):Ai CC (Ad CC) 23 [Bw t,Bw t] bx=some (.ret (.bool true),bx):=rm (dR t hs) bx
theorem Us:Be CC Abj (Abj.body.getD .skip)=true:=by kernel_rfl
theorem Sr:CC.P.funcs[83]?=some Abj:=by kernel_rfl
theorem Dj {n:Int} (h:GY n):(Ab5 n).length<=21:=by
 have key:∀ u:Nat,u<=9223372036854775808->(Lib.decDigits u).length<=20:=by
  intro u hu;rw [Lib.decDigits_length];rcases Nat.lt_or_ge 20 (Aba u) with h | h
  · exfalso
    have hp:10 ^ 20<=10 ^ (Aba u - 1):=Nat.pow_le_pow_right (by omega) (by omega)
    have:10 ^ (Aba u - 1)<=u:=by
     have gen:∀ v:Nat,1<=v->10 ^ (Aba v - 1)<=v:=by
      intro v
      induction v using Nat.strongRecOn with
      | _ v ih=>
       intro hv;by_cases hs:v < 10
       · rw [Abq hs];simpa using hv
       · rw [Lib.nDigits_big hs,Nat.add_sub_cancel]
         have h1:=ih (v / 10) (by omega) (by omega);have h2:Aba (v / 10)=Aba (v / 10) - 1+1:=by have:=Lib.nDigits_pos (v / 10);omega
         rw [h2,Nat.pow_succ];omega
     apply gen;rcases Nat.eq_zero_or_pos u with hz | hz
     · subst hz;rw [Abq (by omega)] at h;omega
     · exact hz
    omega
  · exact h
 unfold Ab5;split
 · have:=key n.natAbs (by omega)
   simp only [Ab2];omega
 · have:=key n.toNat (by omega)
   omega
theorem Qj (n:Int) (h:GY n):Ad CC 83 [.int .i64 n] []=some (.ret (.str (Ab5 n)),[]):=by
 rw [Ah (fn:=Abj) (c:=Abj.body.getD .skip) rfl rfl Sr rfl Us (Aax rfl)];rw [<- Al];have o_strconv_Itoa:=@PE;rw [<- AI] at o_strconv_Itoa;have h1:=o_strconv_Itoa n h;simp only [Aa,Ac,Abj,Aaw];simp only [S7,Af,seval,TG,h1]
theorem EI (n:Int) (h:GY n) (bx):Ai CC (Ad CC) 83 [.int .i64 n] bx=some (.ret (.str (Ab5 n)),bx):=Ao rfl (by simp only [SA,Abo]) (Qj n h) rfl
theorem pc {a b:List UInt8} (h:a.length+b.length<=1000000):ED .add a b=some (.str (a++b)):=by
 unfold ED Z6;simp only;rw [if_pos (by omega)]
theorem kU (l:List UInt8):Gh CC 70 9 (.sl (GZ l))=some (.str l):=by
 unfold Gh;simp only [TG,CK,Pp,Option.map_some]
def isD (c:UInt8):Bool:=decide (48<=c.toNat) && decide (c.toNat<=57)
def pr:List UInt8->Int->Option Int
 | [],n=>some n
 | c :: r,n=>if isD c then pr r (10 * n+((c.toNat:Int) - 48)) else none
theorem Ss:Be CC Ab1 (Ab1.body.getD .skip)=true:=by kernel_rfl
theorem Qk:CC.P.funcs[120]?=some Ab1:=by kernel_rfl
def sN:List UInt8:=[110,111,110,101]
def sT:List UInt8:=[116,114,117,101]
def sF:List UInt8:=[102,97,108,115,101]
def ZX (v:Vl):List UInt8:=if Ku v≠0 then [] else if v.1=0 then sN else if v.1=1 then (if v.2.1=1 then sT else sF) else if v.1=2 then Ab5 v.2.1 else if v.1=3 then 35 :: Ab5 v.2.1 else BD v.2.2
theorem bJ {v:Vl} (h:Ku v=0):v.2.2.length<=60/\(v.1=0\/v.1=1\/v.1=2\/v.1=3\/v.1=4)/\(v.1≠4->v.2.2=[]):=by
 obtain ⟨k,n,s⟩:=v;unfold Ku at h;simp only at h |-;cases ho:Pn k n with
 | none=>rw [ho] at h;cases h
 | some b=>
  rw [ho] at h;cases b with
  | false=>cases h
  | true=>
   simp only at h;by_cases hl:60 < s.length
   · rw [if_pos hl] at h;cases h
   · rw [if_neg hl] at h
     refine ⟨by omega,?_,fun k4=>?_⟩
     · unfold Pn at ho
       by_cases e0:k=0\/k=4
       · omega
       · rw [if_neg e0] at ho
         by_cases e1:k=1
         · omega
         · rw [if_neg e1] at ho
           by_cases e2:k=2
           · omega
           · rw [if_neg e2] at ho
             by_cases e3:k=3
             · omega
             · rw [if_neg e3] at ho;cases ho
     · by_cases hs:s=[]
       · exact hs
       · rw [if_pos ⟨hs,k4⟩] at h;cases h
theorem OF (v:Vl) (hn:GY v.2.1):∃ bx,Ad CC 120 [PF v] []=some (.ret (.str (ZX v)),bx):=by
 rw [Ah (fn:=Ab1) (c:=Ab1.body.getD .skip) rfl rfl Qk rfl Ss (Aax rfl)];have hc:=Kv v;have MA:=bJ (v:=v);have hd:=EI v.2.1 hn;have O7:=Dj hn;have hadd:=pc (a:=[35]) (b:=Ab5 v.2.1) (by simp only [Aav];omega);have hq:=fun h=>KA v.2.2 h;unfold ZX;by_cases c0:Ku v=0
 · rw [if_neg (fun h=>h c0)]
   rw [c0] at hc;obtain ⟨l1,l2,_⟩:=MA c0;have hq:=hq (by omega);clear MA;obtain ⟨k,n,s⟩:=v;unfold PF at *;simp only at *;generalize Ab5 n=d at *;generalize BD s=q at *;rcases l2 with rfl | rfl | rfl | rfl | rfl
   · rw [if_pos rfl]
     have hN:sN=[110,111,110,101]:=rfl;rw [hN];rw [<- Al];rw [<- AI] at hc hd hq;simp only [Aa,Ac,Ab1,Aaw];simp only [S8,Af,SG,seval,UT,SC,hc];exact ⟨_,rfl⟩
   · rw [if_neg (by decide),if_pos rfl]
     by_cases n1:n=1
     · have n1p:(n == 1)=true:=by simp [n1]
       rw [if_pos n1];have hN:sT=[116,114,117,101]:=rfl;rw [hN];rw [<- Al];rw [<- AI] at hc hd hq;simp only [Aa,Ac,Ab1,Aaw];simp only [S8,Af,SG,seval,UT,SC,hc,n1p];exact ⟨_,rfl⟩
     · have n1p:(n == 1)=false:=by simpa using n1
       rw [if_neg n1];have hN:sF=[102,97,108,115,101]:=rfl;rw [hN];rw [<- Al];rw [<- AI] at hc hd hq;simp only [Aa,Ac,Ab1,Aaw];simp only [S8,Af,SG,seval,UT,SC,hc,n1p];exact ⟨_,rfl⟩
   · rw [if_neg (by decide),if_neg (by decide),if_pos rfl]
     rw [<- Al];rw [<- AI] at hc hd hq;simp only [Aa,Ac,Ab1,Aaw];simp only [S8,Af,SG,seval,UT,SC,hc,hd];exact ⟨_,rfl⟩
   · rw [if_neg (by decide),if_neg (by decide),if_neg (by decide),if_pos rfl]
     rw [show (35 :: d:List UInt8)=[35]++d from rfl];generalize [35]++d=d2 at *;rw [<- Al];rw [<- AI] at hc hd hq;simp only [Aa,Ac,Ab1,Aaw];simp only [S8,Af,SG,seval,UT,SC,hc,hd,hadd];exact ⟨_,rfl⟩
   · rw [if_neg (by decide),if_neg (by decide),if_neg (by decide),if_neg (by decide)]
     rw [<- Al];rw [<- AI] at hc hd hq;simp only [Aa,Ac,Ab1,Aaw];simp only [S8,Af,SG,seval,UT,SC,hc,hq];exact ⟨_,rfl⟩
 · rw [if_pos c0]
   have c0p:(Ku v != 0)=true:=by simpa using c0
   generalize Ku v=c at *;unfold PF at *;rw [<- Al];rw [<- AI] at hc;simp only [Aa,Ac,Ab1,Aaw];simp only [S8,Af,SG,seval,UT,SC,hc,c0p];exact ⟨_,rfl⟩
theorem Su (v:Vl) (hn:GY v.2.1) (bx):Ai CC (Ad CC) 120 [PF v] bx=some (.ret (.str (ZX v)),bx):=by
 obtain ⟨b,h⟩:=OF v hn;exact Ao rfl rfl h rfl
def cat (a b:List UInt8):List UInt8:=a++b
theorem AD (a b:List UInt8):(cat a b).length=a.length+b.length:=Ab0
theorem Cq {a b:List UInt8} (h:a.length+b.length<=2 ^ 60):ED .add a b=some (.str (cat a b)):=if_pos h
def rn (n:Nat):UInt8:=UInt8.ofNat (48+n)
def bK:List (List UInt8):=[[109,111,110],[116,117,101],[119,101,100],[116,104,117],[102,114,105],[115,97,116],[115,117,110]]
def W0:Nat->List (List UInt8)->List UInt8
 | _,[]=>[]
 | m,w :: r=>if m % 2=1 then (if m / 2=0 then w else w++44 :: W0 (m / 2) r) else W0 (m / 2) r
def Ql (m:Nat):List UInt8:=[100,97,121,115,32]++W0 m bK
noncomputable def pe (f:FuncId) (g:Nat->List UInt8) (n:Nat):Bool:=match Fb CC 80 f [.int .i64 (n:Int)] [] with
 | some (.ret (.str s),_)=>s == g n
 | _=>false
theorem dS {f:FuncId} {g:Nat->List UInt8} {l:List Nat} (h:l.all (pe f g)=true) (n:Nat) (hn:n ∈ l):∃ bx,Ad CC f [.int .i64 (n:Int)] []=some (.ret (.str (g n)),bx):=by
 have:=List.all_eq_true.1 h n hn;unfold pe at this;split at this
 · rename_i s bx hs
   have e:s=g n:=by simpa using this
   subst e;exact ⟨_,ES.2 ⟨80,hs⟩⟩
 · cases this
theorem kV:((Abu 127).map (·+1)).all (pe 123 Ql)=true:=by kernel_rfl
theorem dT (n:Int) (h:1<=n/\n<=127) (bx):Ai CC (Ad CC) 123 [.int .i64 n] bx=some (.ret (.str (Ql n.toNat)),bx):=by
 obtain ⟨b,hc⟩:=dS kV n.toNat (List.mem_map.2 ⟨n.toNat - 1,Abr.2 (by omega),by omega⟩);rw [show ((n.toNat:Nat):Int)=n by omega] at hc;exact Ao rfl rfl hc rfl
def Sv (n:Nat):List UInt8:=[rn (n / 10),rn (n % 10)]
theorem pf:(Abu 60).all (pe 153 Sv)=true:=by kernel_rfl
theorem kW (n:Nat) (h:n < 60) (bx):Ai CC (Ad CC) 153 [.int .i64 (n:Int)] bx=some (.ret (.str (Sv n)),bx):=by
 obtain ⟨b,hc⟩:=dS pf n (Abr.2 h);exact Ao rfl rfl hc rfl
def FL (n:Nat):List UInt8:=[rn (n / 60 / 10),rn (n / 60 % 10),58,rn (n % 60 / 10),rn (n % 60 % 10)]
theorem ph (n k:Nat):((n:Int).tdiv (k:Int))=((n / k:Nat):Int):=by rw [Int.tdiv_eq_ediv_of_nonneg (by omega)];rfl
theorem pj (n k:Nat):((n:Int).tmod (k:Int))=((n % k:Nat):Int):=by rw [Int.tmod_eq_emod_of_nonneg (by omega)];rfl
theorem Sw:Be CC Abf (Abf.body.getD .skip)=true:=by kernel_rfl
theorem Qm:CC.P.funcs[122]?=some Abf:=by kernel_rfl
theorem Qn:Be CC Abg (Abg.body.getD .skip)=true:=by kernel_rfl
theorem OG:CC.P.funcs[121]?=some Abg:=by kernel_rfl
theorem FNi:∃ a b v,CC.P.underlying 75=some (.func a b v):=by
 have h:(match Tryz.prog.underlying 75 with | some (.func _ _ _)=>true | _=>false)=true:=by kernel_rfl
 split at h
 · rename_i a b v e;exact ⟨a,b,v,e⟩
 · cases h
theorem bL (n:Nat) (h:n < 1440):∃ bx,Ad CC 122 [.int .i64 (n:Int)] []=some (.ret (.str (FL n)),bx):=by
 have o1:=kW (n / 60) (by omega);have o2:=kW (n % 60) (by omega);have q1:=ph n 60;have q2:=pj n 60;have w1:=wrap_i64 (n:=((n / 60:Nat):Int)) ⟨by omega,by omega⟩;have w2:=wrap_i64 (n:=((n % 60:Nat):Int)) ⟨by omega,by omega⟩;have c1:=Cq (a:=Sv (n / 60)) (b:=[58]) (by simp [Sv]);have c2:=Cq (a:=cat (Sv (n / 60)) [58]) (b:=Sv (n % 60)) (by simp [Sv,cat]);have e:FL n=cat (cat (Sv (n / 60)) [58]) (Sv (n % 60)):=rfl;have k60:((60:Nat):Int)=60:=rfl;rw [k60] at q1 q2;rw [e];obtain ⟨fa,fb,fv,mW⟩:=FNi;generalize Sv (n / 60)=s1 at *;generalize Sv (n % 60)=s2 at *;generalize ((n / 60:Nat):Int)=x1 at *;generalize ((n % 60:Nat):Int)=x2 at *;rw [Ah (fn:=Abf) (c:=Abf.body.getD .skip) rfl rfl Qm rfl Sw (Aax rfl)];rw [<- Al];rw [<- AI] at o1 o2;simp only [Aa,Ac,Abf,Aaw];simp only [S8,Af,SG,seval,UT,SC,Aw,Dp,mW,o1,o2,q1,q2,w1,w2,c1,c2];exact ⟨_,rfl⟩
theorem Sx (n:Int) (h:0<=n/\n < 1440) (bx):Ai CC (Ad CC) 122 [.int .i64 n] bx=some (.ret (.str (FL n.toNat)),bx):=by
 obtain ⟨b,hc⟩:=bL n.toNat (by omega);rw [show ((n.toNat:Nat):Int)=n by omega] at hc;exact Ao rfl rfl hc rfl
def E3 (d:Int) (a b:List UInt8):List UInt8:=cat (cat (cat (cat (Ab5 d) [46]) a) [46]) b
theorem Y2 (d:Int) (a b:List UInt8) (h:GY d) (ha:a.length<=1000) (hb:b.length<=1000):∃ bx,Ad CC 121 [.int .i64 d,.str a,.str b] []=some (.ret (.str (E3 d a b)),bx):=by
 have o1:=EI d h;have hl:=Dj h;unfold E3;generalize Ab5 d=s at *;have c1:=Cq (a:=s) (b:=[46]) (by simp only [Aav];omega);have c2:=Cq (a:=cat s [46]) (b:=a) (by simp only [AD,Aav];omega);have c3:=Cq (a:=cat (cat s [46]) a) (b:=[46]) (by simp only [AD,Aav];omega);have c4:=Cq (a:=cat (cat (cat s [46]) a) [46]) (b:=b) (by simp only [AD,Aav];omega);obtain ⟨fa,fb,fv,mW⟩:=FNi;rw [Ah (fn:=Abg) (c:=Abg.body.getD .skip) rfl rfl OG rfl Qn (Aax rfl)];rw [<- Al];rw [<- AI] at o1;simp only [Aa,Ac,Abg,Aaw];simp only [S8,Af,SG,seval,UT,SC,Aw,Dp,mW,o1,c1,c2,c3,c4];exact ⟨_,rfl⟩
theorem IQ (d:Int) (a b:List UInt8) (h:GY d) (ha:a.length<=1000) (hb:b.length<=1000) (bx):Ai CC (Ad CC) 121 [.int .i64 d,.str a,.str b] bx=some (.ret (.str (E3 d a b)),bx):=by
 obtain ⟨c,hc⟩:=Y2 d a b h ha hb;exact Ao rfl rfl hc rfl
theorem OH:Be CC Abb (Abb.body.getD .skip)=true:=by kernel_rfl
theorem Ny:CC.P.funcs[68]?=some Abb:=by kernel_rfl
theorem OI:Be CC Ab7 (Ab7.body.getD .skip)=true:=by kernel_rfl
theorem Nz:CC.P.funcs[74]?=some Ab7:=by kernel_rfl
def gL (v:Vl):Int:=if v.1=2/\v.2.1 < 0 then 7 else 8
theorem W1 (v:Vl) (hn:GY v.2.1) (hc:Ku v=0) (h0:v.1≠0):∃ bx,Ad CC 68 [PF v] []=some (.ret (.tup [.str (ZX v),.int .i64 (gL v)]),bx):=by
 have o1:=Su v hn;have o2:=EI v.2.1 hn
 have e2:v.1=2->ZX v=Ab5 v.2.1:=fun h=>by
  unfold ZX;rw [if_neg (by omega),if_neg (by omega),if_neg (by omega),if_pos h]
 unfold gL;obtain ⟨k,n,s⟩:=v;unfold PF at o1 |-;simp only at o1 o2 e2 |-;generalize ZX (k,n,s)=pv at *;generalize Ab5 n=d at *;clear hc h0;rw [Ah (fn:=Abb) (c:=Abb.body.getD .skip) rfl rfl Ny rfl OH (Aax rfl)];by_cases k2:k=2
 · have e:=e2 k2
   subst k2;by_cases nj:n < 0
   · rw [if_pos ⟨rfl,nj⟩,e]
     rw [<- Al];rw [<- AI] at o1 o2;simp only [Aa,Ac,Abb,Aaw];simp only [S8,Af,SG,seval,UT,SC,o1,o2,nj];exact ⟨_,rfl⟩
   · rw [if_neg (by omega)]
     rw [<- Al];rw [<- AI] at o1 o2;simp only [Aa,Ac,Abb,Aaw];simp only [S8,Af,SG,seval,UT,SC,o1,o2,nj];exact ⟨_,rfl⟩
 · have p2:(k == 2)=false:=by simpa using k2
   rw [if_neg (by omega)];rw [<- Al];rw [<- AI] at o1 o2;simp only [Aa,Ac,Abb,Aaw];simp only [S8,Af,SG,seval,UT,SC,o1,o2,p2];exact ⟨_,rfl⟩
theorem bM (v:Vl) (hn:GY v.2.1) (hc:Ku v=0) (h0:v.1≠0) (bx):Ai CC (Ad CC) 68 [PF v] bx=some (.ret (.tup [.str (ZX v),.int .i64 (gL v)]),bx):=by
 obtain ⟨c,h⟩:=W1 v hn hc h0;exact Ao rfl rfl h rfl
def kX:Nat->List UInt8
 | 0=>[104,111,109,101]
 | 1=>[104,111,109,101,32,103,117,101,115,116]
 | 2=>[104,111,109,101,32,99,104,105,108,100]
 | 3=>[104,111,109,101,32,97,100,117,108,116]
 | 4=>[104,111,109,101,32,111,119,110,101,114]
 | _=>[]
def K1 (k n m:Int) (nm:List UInt8) (key:Ky):List UInt8:=if k=2 then E3 key.1 key.2.1 key.2.2 else if k=3 then cat [109,111,100,101,32,105,115,32] nm else
 if k=4 then cat (cat (cat [116,105,109,101,32] (FL n.toNat)) [32,116,111,32]) (FL m.toNat) else if k=5 then Ql n.toNat else kX n.toNat
theorem Aae:A' CC 131 [(0,.str [104,111,109,101]),(1,.str [104,111,109,101,32,103,117,101,115,116]),(2,.str [104,111,109,101,32,99,104,105,108,100]),(3,.str [104,111,109,101,32,97,100,117,108,116]),(4,.str [104,111,109,101,32,111,119,110,101,114])]=some (.agg [.str [104,111,109,101],.str [104,111,109,101,32,103,117,101,115,116],.str [104,111,109,101,32,99,104,105,108,100],.str [104,111,109,101,32,97,100,117,108,116],.str [104,111,109,101,32,111,119,110,101,114]]) :=by kernel_rfl
theorem Aaf:Dy CC 131 (.agg [.str [104,111,109,101],.str [104,111,109,101,32,103,117,101,115,116],.str [104,111,109,101,32,99,104,105,108,100],.str [104,111,109,101,32,97,100,117,108,116],.str [104,111,109,101,32,111,119,110,101,114]]) (.int .i64 0)=some (.str [104,111,109,101]):=by kernel_rfl
theorem Aag:Dy CC 131 (.agg [.str [104,111,109,101],.str [104,111,109,101,32,103,117,101,115,116],.str [104,111,109,101,32,99,104,105,108,100],.str [104,111,109,101,32,97,100,117,108,116],.str [104,111,109,101,32,111,119,110,101,114]]) (.int .i64 1)=some (.str [104,111,109,101,32,103,117,101,115,116]):=by kernel_rfl
theorem Aah:Dy CC 131 (.agg [.str [104,111,109,101],.str [104,111,109,101,32,103,117,101,115,116],.str [104,111,109,101,32,99,104,105,108,100],.str [104,111,109,101,32,97,100,117,108,116],.str [104,111,109,101,32,111,119,110,101,114]]) (.int .i64 2)=some (.str [104,111,109,101,32,99,104,105,108,100]):=by kernel_rfl
theorem Aai:Dy CC 131 (.agg [.str [104,111,109,101],.str [104,111,109,101,32,103,117,101,115,116],.str [104,111,109,101,32,99,104,105,108,100],.str [104,111,109,101,32,97,100,117,108,116],.str [104,111,109,101,32,111,119,110,101,114]]) (.int .i64 3)=some (.str [104,111,109,101,32,97,100,117,108,116]):=by kernel_rfl
theorem Aaj:Dy CC 131 (.agg [.str [104,111,109,101],.str [104,111,109,101,32,103,117,101,115,116],.str [104,111,109,101,32,99,104,105,108,100],.str [104,111,109,101,32,97,100,117,108,116],.str [104,111,109,101,32,111,119,110,101,114]]) (.int .i64 4)=some (.str [104,111,109,101,32,111,119,110,101,114]):=by kernel_rfl
theorem W2 (k n m:Int) (nm:List UInt8) (v:Vl) (key:Ky) (kids:List Tr) (hk:k=2\/k=3\/k=4\/k=5\/k=15) (hr:Fk k n m key.1=true) (hd:GY key.1) (l1:nm.length<=100) (l2:key.2.1.length<=100) (l3:key.2.2.length<=100) :
 ∃ bx,Ad CC 74 [Bw (.mk k n m nm v key kids)] []=some (.ret (.str (K1 k n m nm key)),bx):=by
 unfold K1;unfold Bw;unfold Fk at hr;generalize A1 kids=xs;obtain ⟨d,c,a⟩:=key;simp only at hr hd l2 l3 |-;rw [Ah (fn:=Ab7) (c:=Ab7.body.getD .skip) rfl rfl Nz rfl OI (Aax rfl)];rcases hk with rfl | rfl | rfl | rfl | rfl
 · rw [if_pos rfl]
   have o1:=IQ d c a hd (by omega) (by omega);rw [<- Al];rw [<- AI] at o1;simp only [Aa,Ac,Ab7,Aaw];simp only [S8,Af,SG,seval,UT,SC,o1];exact ⟨_,rfl⟩
 · rw [if_neg (by omega),if_pos rfl]
   have c1:=Cq (a:=[109,111,100,101,32,105,115,32]) (b:=nm) (by simp only [Ab2,Ab8];omega);rw [<- Al];skip;simp only [Aa,Ac,Ab7,Aaw];simp only [S8,Af,SG,seval,UT,SC,c1];exact ⟨_,rfl⟩
 · rw [if_pos rfl] at hr
   have hr:=of_decide_eq_true hr;rw [if_neg (by omega),if_neg (by omega),if_pos rfl];have o1:=Sx n (by omega);have o2:=Sx m (by omega);have e1:(FL n.toNat).length=5:=rfl;have e2:(FL m.toNat).length=5:=rfl;generalize FL n.toNat=s1 at *;generalize FL m.toNat=s2 at *;have c1:=Cq (a:=[116,105,109,101,32]) (b:=s1) (by simp only [Ab2,Ab8];omega);have c2:=Cq (a:=cat [116,105,109,101,32] s1) (b:=[32,116,111,32]) (by simp only [AD,Ab2,Ab8];omega);have c3:=Cq (a:=cat (cat [116,105,109,101,32] s1) [32,116,111,32]) (b:=s2) (by simp only [AD,Ab2,Ab8];omega);rw [<- Al];rw [<- AI] at o1 o2;simp only [Aa,Ac,Ab7,Aaw];simp only [S8,Af,SG,seval,UT,SC,o1,o2,c1,c2,c3];exact ⟨_,rfl⟩
 · rw [if_neg (by omega),if_pos rfl] at hr
   have hr:=of_decide_eq_true hr;rw [if_neg (by omega),if_neg (by omega),if_neg (by omega),if_pos rfl];have o1:=dT n (by omega);rw [<- Al];rw [<- AI] at o1;simp only [Aa,Ac,Ab7,Aaw];simp only [S8,Af,SG,seval,UT,SC,o1];exact ⟨_,rfl⟩
 · rw [if_neg (by omega),if_neg (by omega),if_pos rfl] at hr
   have hr:=of_decide_eq_true hr;rw [if_neg (by omega),if_neg (by omega),if_neg (by omega),if_neg (by omega)];have:n=0\/n=1\/n=2\/n=3\/n=4:=by omega
   rcases this with rfl | rfl | rfl | rfl | rfl
   all_goals
    rw [<- Al];skip;simp only [Aa,Ac,Ab7,Aaw];simp only [S8,Af,SG,seval,UT,SC,Aae,Aaf,Aag,Aah,Aai,Aaj];exact ⟨_,rfl⟩
theorem Hm (k n m:Int) (nm:List UInt8) (v:Vl) (key:Ky) (kids:List Tr) (hk:k=2\/k=3\/k=4\/k=5\/k=15) (hr:Fk k n m key.1=true) (hd:GY key.1) (l1:nm.length<=100) (l2:key.2.1.length<=100) (l3:key.2.2.length<=100) (bx) :
 Ai CC (Ad CC) 74 [Bw (.mk k n m nm v key kids)] bx=some (.ret (.str (K1 k n m nm key)),bx):=by
 obtain ⟨c,h⟩:=W2 k n m nm v key kids hk hr hd l1 l2 l3;exact Ao rfl (by simp only [AK,Bz,Bk,Ab4]) h rfl
inductive At where
 | mk (s:List UInt8) (lv:Int) (kids:List At)
def At.s:At->List UInt8
 | .mk s _ _=>s
def At.lv:At->Int
 | .mk _ l _=>l
def At.ks:At->List At
 | .mk _ _ k=>k
def dAt:At:=.mk [] 8 []
def L0 (l:List At) (i:Nat):At:=l[i]?.getD dAt
def EN (a:At) (least:Int):List UInt8:=if a.lv < least then cat (cat [40] a.s) [41] else a.s
def NA (a:At) (l1:Int) (op:List UInt8) (c:At) (l2:Int):List UInt8:=cat (cat (cat (cat (EN a l1) [32]) op) [32]) (EN c l2)
def Hn (op:List UInt8) (least:Int):List At->Nat->List UInt8->List UInt8
 | [],_,acc=>acc
 | a :: r,i,acc=>Hn op least r (i+1) (cat (if 0 < i then cat acc (cat (cat [32] op) [32]) else acc) (EN a least))
def Kb:Tr->Int
 | .mk k _ _ _ _ _ _=>k
def EO:Tr->List Tr
 | .mk _ _ _ _ _ _ kids=>kids
def VA (k:Int) (a:At):List UInt8:=if k=9 then NA (L0 a.ks 0) 5 [33,61] (L0 a.ks 1) 5 else if k=10 then NA (L0 a.ks 1) 5 [60,61] (L0 a.ks 0) 5 else cat [110,111,116,32] (EN a 3)
def kY (k:Int):Int:=if k=9 then 4 else if k=10 then 4 else 3
def gM:List Tr->Bool
 | a :: c :: _=>bA a 1 0 0 [] (2,0,[]) (0,[],[]) && (Kb c != 1)
 | _=>false
def kd0:List Tr->Int
 | a :: _=>Kb a
 | _=>0
def Ll (k n m:Int) (nm:List UInt8) (v:Vl) (key:Ky) (kids:List Tr) (l:List At):List UInt8:=
 if k=1 then ZX v else if k=14 then cat (cat (cat (cat (cat [105,102,32] (EN (L0 l 0) 0)) [32,116,104,101,110,32]) (EN (L0 l 1) 0)) [32,101,108,115,101,32]) (EN (L0 l 2) 0) else
 if k=8 then Hn [111,114] 2 l 0 [] else if k=7 then Hn [97,110,100] 3 l 0 [] else if k=6 then VA (kd0 kids) (L0 l 0) else
 if k=9 then NA (L0 l 0) 5 [61,61] (L0 l 1) 5 else if k=10 then NA (L0 l 0) 5 [60] (L0 l 1) 5 else if k=11 then NA (L0 l 0) 5 [43] (L0 l 1) 6 else
 if k=12 then (if gM kids then cat [45] (EN (L0 l 1) 7) else NA (L0 l 0) 5 [45] (L0 l 1) 6) else if k=13 then NA (L0 l 0) 6 [42] (L0 l 1) 7 else K1 k n m nm key
def W3 (k:Int) (v:Vl) (kids:List Tr):Int:=
 if k=1 then gL v else if k=14 then 0 else if k=8 then 1 else if k=7 then 2 else if k=6 then kY (kd0 kids) else if k=9 then 4 else if k=10 then 4 else if k=11 then 5 else
 if k=12 then (if gM kids then 7 else 5) else if k=13 then 6 else 8
mutual
def an:Tr->At
 | .mk k n m nm v key kids=>.mk (Ll k n m nm v key kids (HP kids)) (W3 k v kids) (HP kids)
def HP:List Tr->List At
 | []=>[]
 | t :: r=>an t :: HP r
end
def TX (t:Tr):List UInt8:=(an t).s
def LV (t:Tr):Int:=(an t).lv
theorem NC:∀ l:List Tr,HP l=l.map an
 | []=>by unfold HP;rfl
 | t :: r=>by unfold HP;rw [NC r];rfl
theorem Y3 (k n m:Int) (nm:List UInt8) (v:Vl) (key:Ky) (kids:List Tr):an (.mk k n m nm v key kids)=.mk (Ll k n m nm v key kids (HP kids)) (W3 k v kids) (HP kids):=by
 conv=>lhs;unfold an
theorem VB (t:Tr):(an t).ks=HP (EO t):=by
 obtain ⟨k,n,m,nm,v,key,kids⟩:=t;rw [Y3];rfl
mutual
def vT:Tr->Prop
 | .mk k n m nm v key kids=>Wi (.mk k n m nm v key kids)=0/\bN kids
def bN:List Tr->Prop
 | []=>True
 | t :: r=>vT t/\bN r
end
theorem dU:∀ l:List Tr,bN l↔∀ t ∈ l,vT t
 | []=>by unfold bN;simp
 | t :: r=>by unfold bN;rw [dU r];simp
mutual
theorem xE (t:Tr) (lv c:Int) (h:(ZW t lv c).2=0):vT t:=by
 match t with
 | .mk k n m nm v key kids=>
  unfold ZW at h;unfold vT;split at h
  · simp at h
  · split at h
    · simp at h
    · split at h
      · rename_i hn;exact absurd h hn
      · rename_i hn
        exact ⟨by omega,rq kids _ _ h⟩
theorem rq (l:List Tr) (lv c:Int) (h:(RA l lv c).2=0):bN l:=by
 match l with
 | []=>unfold bN;trivial
 | t :: r=>
  unfold RA at h;unfold bN;split at h
  · rename_i hn;exact absurd h hn
  · rename_i hn
    exact ⟨xE t lv c (by omega),rq r _ _ h⟩
end
theorem xF {t:Tr} (h:Mz t=0):vT t:=xE t 1 0 h
mutual
def po:Tr->Nat
 | .mk _ _ _ _ _ _ kids=>1+OJ kids
def OJ:List Tr->Nat
 | []=>0
 | t :: r=>po t+OJ r
end
mutual
theorem ry (t:Tr) (left levels:Int) (h:0<=Tn t left levels):(po t:Int)+Tn t left levels<=left:=by
 match t with
 | .mk k n m nm v key kids=>
  unfold Tn at h |-;unfold po;split at h
  · omega
  · rename_i hc
    rw [if_neg hc];have:=kZ kids (left - 1) _ h;omega
theorem kZ (l:List Tr) (left levels:Int) (h:0<=Iv l left levels):(OJ l:Int)+Iv l left levels<=left:=by
 match l with
 | []=>unfold Iv OJ;omega
 | t :: r=>
  unfold Iv at h |-;unfold OJ;split at h
  · omega
  · rename_i hc
    rw [if_neg hc];have h1:=ry t left levels (by omega);have h2:=kZ r _ levels h;omega
end
theorem s7 {t:Tr} (h:0<=Tn t 220 30):po t<=220:=by have:=ry t 220 30 h;omega
theorem W4:Be CC Abe (Abe.body.getD .skip)=true:=by kernel_rfl
theorem Ut:CC.P.funcs[69]?=some Abe:=by kernel_rfl
theorem Uu:Be CC Abk (Abk.body.getD .skip)=true:=by kernel_rfl
theorem Sy:CC.P.funcs[72]?=some Abk:=by kernel_rfl
theorem W5:Be CC Ab3 (Ab3.body.getD .skip)=true:=by kernel_rfl
theorem Uv:CC.P.funcs[70]?=some Ab3:=by kernel_rfl
theorem Sz:Be CC Abd (Abd.body.getD .skip)=true:=by kernel_rfl
theorem Qo:CC.P.funcs[73]?=some Abd:=by kernel_rfl
theorem OK:Be CC Ab6 (Ab6.body.getD .skip)=true:=by kernel_rfl
theorem ND:CC.P.funcs[71]?=some Ab6:=by kernel_rfl
theorem EA {x:List PV} {b:List PBox} (h:x.length.ble Ab6.ntmps=true):Ad CC 71 x b=CD CC Ab6.results.toList (Cf CC (Ab6.body.getD .skip) ⟨x,b⟩):=Ah (fn:=Ab6) (c:=Ab6.body.getD .skip) rfl rfl ND rfl OK (Aax h)
theorem Uw:Be CC Aaz (Aaz.body.getD .skip)=true:=by kernel_rfl
theorem SI:CC.P.funcs[37]?=some Aaz:=by kernel_rfl
theorem Bc {x:List PV} {b:List PBox} (h:x.length.ble Aaz.ntmps=true):Ad CC 37 x b=CD CC Aaz.results.toList (Cf CC (Aaz.body.getD .skip) ⟨x,b⟩):=Ah (fn:=Aaz) (c:=Aaz.body.getD .skip) rfl rfl SI rfl Uw (Aax h)
def NF (t:Tr):Prop:=∀ bx,Ai CC (Ad CC) 37 [Bw t] bx=some (.ret (.tup [.str (TX t),.int .i64 (LV t)]),bx)
theorem Dk (a:At) (least:Int):(EN a least).length<=a.s.length+2:=by
 unfold EN;split <;> (try simp only [AD,Aav]) <;> omega
theorem ld (t:Tr) (h:NF t) (hl:(TX t).length<=200000) (least:Int):∃ bx,Ad CC 69 [Bw t,.int .i64 least] []=some (.ret (.str (EN (an t) least)),bx):=by
 unfold NF at h;have e1:TX t=(an t).s:=rfl;have e2:LV t=(an t).lv:=rfl;rw [e1] at hl;rw [e1,e2] at h;unfold EN;generalize (an t).s=s at *;generalize (an t).lv=lv at *;have c1:=Cq (a:=[40]) (b:=s) (by simp only [Aav];omega);have c2:=Cq (a:=cat [40] s) (b:=[41]) (by simp only [AD,Aav];omega);obtain ⟨k,n,m,nm,v,key,kids⟩:=t;unfold Bw at h |-;generalize A1 kids=xs at *;rw [Ah (fn:=Abe) (c:=Abe.body.getD .skip) rfl rfl Ut rfl W4 (Aax rfl)];by_cases c:lv < least
 · rw [if_pos c]
   rw [<- Al];rw [<- AI] at h;simp only [Aa,Ac,Abe,Aaw];simp only [S8,Af,SG,seval,UT,SC,h,c1,c2,c];exact ⟨_,rfl⟩
 · rw [if_neg c]
   rw [<- Al];rw [<- AI] at h;simp only [Aa,Ac,Abe,Aaw];simp only [S8,Af,SG,seval,UT,SC,h,c1,c2,c];exact ⟨_,rfl⟩
theorem Ie (t:Tr) (h:NF t) (hl:(TX t).length<=200000) (least:Int) (bx):Ai CC (Ad CC) 69 [Bw t,.int .i64 least] bx=some (.ret (.str (EN (an t) least)),bx):=by
 obtain ⟨c,hc⟩:=ld t h hl least;exact Ao rfl (by simp only [AK,Bz,Bk,Kp,Ab4]) hc rfl
theorem gN (t u:Tr) (h:NF t) (h':NF u) (hl:(TX t).length<=200000) (D3:(TX u).length<=200000) (l1 l2:Int) (op:List UInt8) (ho:op.length<=10) :
 ∃ bx,Ad CC 72 [Bw t,.int .i64 l1,.str op,Bw u,.int .i64 l2] []=some (.ret (.str (NA (an t) l1 op (an u) l2)),bx):=by
 have o1:=Ie t h hl l1;have o2:=Ie u h' D3 l2;have k1:=Dk (an t) l1;have k2:=Dk (an u) l2;have e1:TX t=(an t).s:=rfl;have e2:TX u=(an u).s:=rfl;rw [e1] at hl;rw [e2] at D3;unfold NA;generalize EN (an t) l1=s1 at *;generalize EN (an u) l2=s2 at *;have c1:=Cq (a:=s1) (b:=[32]) (by simp only [Aav];omega);have c2:=Cq (a:=cat s1 [32]) (b:=op) (by simp only [AD,Aav];omega);have c3:=Cq (a:=cat (cat s1 [32]) op) (b:=[32]) (by simp only [AD,Aav];omega);have c4:=Cq (a:=cat (cat (cat s1 [32]) op) [32]) (b:=s2) (by simp only [AD,Aav];omega);have q1:=AW (EO t);have q2:=AW (EO u);clear e1 e2 h h' hl D3 k1 k2;obtain ⟨k,n,m,nm,v,key,kids⟩:=t;obtain ⟨k',n',m',nm',v',key',kids'⟩:=u;unfold Bw at o1 o2 |-;unfold EO at q1 q2;simp only at q1 q2;generalize A1 kids=xs at *;generalize A1 kids'=ys at *;rw [Ah (fn:=Abk) (c:=Abk.body.getD .skip) rfl rfl Sy rfl Uu (Aax rfl)];rw [<- Al];rw [<- AI] at o1 o2;simp only [Aa,Ac,Abk,Aaw];simp only [S8,Af,SG,seval,UT,SC,o1,o2,c1,c2,c3,c4,q1,q2];exact ⟨_,rfl⟩
theorem Jx (t u:Tr) (h:NF t) (h':NF u) (hl:(TX t).length<=200000) (D3:(TX u).length<=200000) (l1 l2:Int) (op:List UInt8) (ho:op.length<=10) (bx) :
 Ai CC (Ad CC) 72 [Bw t,.int .i64 l1,.str op,Bw u,.int .i64 l2] bx=some (.ret (.str (NA (an t) l1 op (an u) l2)),bx):=by
 obtain ⟨c,hc⟩:=gN t u h h' hl D3 l1 l2 op ho;exact Ao rfl (by simp only [AK,Bz,Bk,Kp,Rh,Ab4]) hc rfl
theorem Pu {α:Type} (a:List α) (x y:α):(a++[x]).set a.length y=a++[y]:=by simp
def s8 (bx:List PBox) (v:List UInt8) (res:Option (Ex×St)):Prop:=∃ e' ex,res=some (.exit 0,⟨e',bx++ex⟩)/\getT e' 7=.str v
theorem s8.app {bx:List PBox} {x:PBox} {v:List UInt8} {res:Option (Ex×St)} (h:s8 (bx++[x]) v res):s8 bx v res:=by
 obtain ⟨e',ex,h⟩:=h;refine ⟨e',[x]++ex,?_⟩;rw [<- List.append_assoc];exact h
theorem lg (L:Code) (hL:L=Aa Ab3 [1,1,0,1,0]) (l:List Tr) (hl:l.length<=1000) (op:List UInt8) (ho:op.length<=10) (least:Int) (hk:∀ t ∈ l,NF t/\(TX t).length<=200000):∀ (k i:Nat) (acc:List UInt8) (e:List PV) (bx:List PBox),i+k=l.length->acc.length<=i * 200100 ->
 getT e 10=.sl (A1 l)->getT e 11=.int .i64 l.length->getT e 12=.int .i64 i->getT e 7=.str acc->getT e 1=.str op->getT e 2=.int .i64 least->s8 bx (Hn op least (HP (l.drop i)) i acc) (Cf CC L ⟨e,bx⟩):=by
 intro k
 induction k with
 | zero=>
  intro i acc e bx DK vD e10 e11 e12 e7 e1 e2;rw [AX (Aa Ab3 [1,1,0,1,0,0]) hL];have hi:¬ ((i:Int) < (l.length:Int)):=by omega
  rw [List.drop_eq_nil_of_le (by omega)];unfold HP Hn;generalize A1 l=xs at *;rw [<- Al];simp only [Aa,Ac,Ab3,Aaw];simp only [S9,Af,seval,HY,Pu,Aau,e10,e11,e12,e7,hi];exact ⟨_,[],by rw [List.append_nil],by simp only [S7,Af,seval,e7]⟩
 | succ k ih=>
  intro i acc e bx DK vD e10 e11 e12 e7 e1 e2;rw [AX (Aa Ab3 [1,1,0,1,0,0]) hL];have hi:((i:Int) < (l.length:Int)):=by omega
  have C4:¬ ((i:Int) < 0):=by omega
  have G1:l.drop i=(l[i]'(by omega)) :: l.drop (i+1):=List.drop_eq_getElem_cons (by omega);have hx:=MS (l:=l) (i:=i) (t:=l[i]'(by omega)) (Abn (by omega));have hlen:=Cv l;have I5:=wrap_i64 (n:=(i:Int)+1) ⟨by omega,by omega⟩;obtain ⟨hc,MA⟩:=hk (l[i]'(by omega)) (Abl _);have key:=fun acc e bx h=>ih (i+1) acc e bx (by omega) h;have cast1:((i+1:Nat):Int)=(i:Int)+1:=by omega
  rw [cast1] at key;rw [G1];unfold HP Hn;generalize l[i]'(by omega)=x at *;have o1:=Ie x hc MA least;have kl:=Dk (an x) least;have e0:TX x=(an x).s:=rfl;rw [e0] at MA;clear hc e0;generalize EN (an x) least=ks at *;have c1:=Cq (a:=[32]) (b:=op) (by simp only [Aav];omega);have c2:=Cq (a:=cat [32] op) (b:=[32]) (by simp only [AD,Aav];omega);have c3:=Cq (a:=acc) (b:=cat (cat [32] op) [32]) (by simp only [AD,Aav];omega);generalize HP (l.drop (i+1))=rest at *;obtain ⟨xk,xn,xm,xnm,xv,xkey,xkids⟩:=x;unfold Bw at hx o1;generalize A1 l=xs at *;generalize A1 xkids=ys at *;clear hk ih G1;by_cases z:0 < i
  · have z1:((i:Int) > 0):=by omega
    rw [if_pos z];have c4:=Cq (a:=cat acc (cat (cat [32] op) [32])) (b:=ks) (by simp only [AD,Aav];omega);have key:=fun e bx=>key (cat (cat acc (cat (cat [32] op) [32])) ks) e bx (by simp only [AD,Aav];omega);generalize Hn op least rest (i+1) (cat (cat acc (cat (cat [32] op) [32])) ks)=res at *;apply s8.app;rw [<- Al];rw [<- Al] at key;rw [<- AI] at o1;simp only [Aa,Ac,Ab3,Aaw];simp only [S9,Af,seval,HY,Pu,Aau,e10,e11,e12,e7,e1,e2,hi,C4,hx,hlen,I5,o1,c1,c2,c3,c4,z1];refine key _ _ ?_ ?_ ?_ ?_ ?_ ?_
    all_goals simp only [S7,Af,seval,e10,e11,e12,e7,e1,e2]
  · have z1:¬ ((i:Int) > 0):=by omega
    rw [if_neg z];have c4:=Cq (a:=acc) (b:=ks) (by omega);have key:=fun e bx=>key (cat acc ks) e bx (by simp only [AD];omega);generalize Hn op least rest (i+1) (cat acc ks)=res at *;apply s8.app;rw [<- Al];rw [<- Al] at key;rw [<- AI] at o1;simp only [Aa,Ac,Ab3,Aaw];simp only [S9,Af,seval,HY,Pu,Aau,e10,e11,e12,e7,e1,e2,hi,C4,hx,hlen,I5,o1,c4,z1];refine key _ _ ?_ ?_ ?_ ?_ ?_ ?_
    all_goals simp only [S7,Af,seval,e10,e11,e12,e7,e1,e2]
theorem lh (l:List Tr) (hl:l.length<=1000) (op:List UInt8) (ho:op.length<=10) (least:Int) (hk:∀ t ∈ l,NF t/\(TX t).length<=200000):∃ bx,Ad CC 70 [.sl (A1 l),.str op,.int .i64 least] []=some (.ret (.str (Hn op least (HP l) 0 [])),bx):=by
 have Ag:=fun e bx=>lg _ rfl l hl op ho least hk l.length 0 [] e bx (by omega) (by simp);have hlen:=Cv l;rw [List.drop_zero] at Ag;generalize Hn op least (HP l) 0 []=v at *;clear hk;rw [Ah (fn:=Ab3) (c:=Ab3.body.getD .skip) rfl rfl Uv rfl W5 (Aax rfl)];generalize A1 l=xs at *;rw [<- Al];rw [<- Al] at Ag;simp only [Aa,Ac,Ab3,Aaw] at Ag |-;simp only [S9,Af,seval,HY,Pu,Aau,hlen];generalize hE:GM (Code.loop _) _=z
 have hP:s8 [] v z:=by
  rw [<- hE];refine Ag _ _ ?_ ?_ ?_ ?_ ?_ ?_
  all_goals first | (simp only [S7,Af,seval];done) | (simp only [S7,Af,seval] <;> rfl)
 obtain ⟨e',ex,he,q⟩:=hP;subst he;simp only [S9,Af,seval,HY,Pu,Aau,hlen,q];exact ⟨_,rfl⟩
theorem lj (l:List Tr) (hl:l.length<=1000) (op:List UInt8) (ho:op.length<=10) (least:Int) (hk:∀ t ∈ l,NF t/\(TX t).length<=200000) (bx):Ai CC (Ad CC) 70 [.sl (A1 l),.str op,.int .i64 least] bx=some (.ret (.str (Hn op least (HP l) 0 [])),bx):=by
 obtain ⟨c,hc⟩:=lh l hl op ho least hk;exact Ao rfl (by simp only [AK,PV.pure,AW,Bk,Ab4]) hc rfl
theorem rz:A' CC 24 [(0,.int .i64 2)]=some (.agg [.int .i64 2,.int .i64 0,.str []]):=by kernel_rfl
theorem rA:A' CC 29 [(0,.int .i64 1),(4,.agg [.int .i64 2,.int .i64 0,.str []])]=some (.agg [.int .i64 1,.int .i64 0,.int .i64 0,.str [],.int .i64 2,.int .i64 0,.str [],.int .i64 0,.str [],.str [],.nils]):=by kernel_rfl
theorem bO (k n m:Int) (nm:List UInt8) (v:Vl) (key:Ky) (a c:Tr):∃ bx,Ad CC 73 [Bw (.mk k n m nm v key [a,c])] []=some (.ret (.bool (gM [a,c])),bx):=by
 have o1:=Ju a 1 0 0 [] (2,0,[]) (0,[],[]);have hm:gM [a,c]=(bA a 1 0 0 [] (2,0,[]) (0,[],[]) && (Kb c != 1)):=rfl;rw [hm];clear hm;generalize bA a 1 0 0 [] (2,0,[]) (0,[],[])=q at *;unfold YQ at o1;obtain ⟨ak,an',am,anm,av,akey,akids⟩:=a;obtain ⟨ck,cn,cm,cnm,cv,ckey,ckids⟩:=c;simp only [Kb,Bw,A1] at o1 |-;generalize A1 akids=xs at *;generalize A1 ckids=ys at *;have nz:∀ b:Bool,(true && b)=b:=fun b=>rfl;rw [Ah (fn:=Abd) (c:=Abd.body.getD .skip) rfl rfl Qo rfl Sz (Aax rfl)];cases q with
 | true=>
  rw [Bool.true_and];rw [<- Al];rw [<- AI] at o1;simp only [Aa,Ac,Abd,Aaw];simp only [S9,Af,seval,HY,Pu,Aau,o1,rz,rA];exact ⟨_,rfl⟩
 | false=>
  rw [Bool.false_and];rw [<- Al];rw [<- AI] at o1;simp only [Aa,Ac,Abd,Aaw];simp only [S9,Af,seval,HY,Pu,Aau,o1,rz,rA];exact ⟨_,rfl⟩
theorem ll (k n m:Int) (nm:List UInt8) (v:Vl) (key:Ky) (a c:Tr) (bx):Ai CC (Ad CC) 73 [Bw (.mk k n m nm v key [a,c])] bx=some (.ret (.bool (gM [a,c])),bx):=by
 obtain ⟨b,hc⟩:=bO k n m nm v key a c;exact Ao rfl (by simp only [AK,Bz,Bk,Ab4]) hc rfl
def NGc (t:Tr):Prop:=∀ bx,Ai CC (Ad CC) 71 [Bw t] bx=some (.ret (.tup [.str (VA (Kb t) (an t)),.int .i64 (kY (Kb t))]),bx)
theorem s9 {l:List Tr} (h:l.length=2):∃ a c,l=[a,c]:=by
 match l,h with
 | [a,c],_=>exact ⟨a,c,rfl⟩
theorem tc {l:List Tr} (h:l.length=1):∃ a,l=[a]:=by
 match l,h with
 | [a],_=>exact ⟨a,rfl⟩
theorem lq {l:List Tr} (h:l.length=3):∃ a c d,l=[a,c,d]:=by
 match l,h with
 | [a,c,d],_=>exact ⟨a,c,d,rfl⟩
theorem Fz {k:Int} {l:List Tr} (hk:9<=k/\k<=13) (h:Em k l.length=true):∃ a c,l=[a,c]:=by
 unfold Em at h;rw [if_neg (by omega),if_neg (by omega),if_pos hk] at h;exact s9 (by have:=eq_of_beq h;omega)
theorem lr {l:List Tr} (h:Em 6 l.length=true):∃ a,l=[a]:=by
 unfold Em at h;rw [if_pos rfl] at h;exact tc (by have:=eq_of_beq h;omega)
theorem Y4 {l:List Tr} (h:Em 14 l.length=true):∃ a c d,l=[a,c,d]:=by
 unfold Em at h;rw [if_neg (by omega),if_neg (by omega),if_neg (by omega),if_pos rfl] at h;exact lq (by have:=eq_of_beq h;omega)
theorem W6 (k n m:Int) (nm:List UInt8) (v:Vl) (key:Ky) (kids:List Tr) (hv:Em k kids.length=true) (ht:NF (.mk k n m nm v key kids)) (XC:(TX (.mk k n m nm v key kids)).length<=200000) (hk:∀ t ∈ kids,NF t/\(TX t).length<=200000) :
 ∃ bx,Ad CC 71 [Bw (.mk k n m nm v key kids)] []=some (.ret (.tup [.str (VA k (an (.mk k n m nm v key kids))),.int .i64 (kY k)]),bx):=by
 by_cases k9:k=9
 · subst k9
   obtain ⟨a,c,rfl⟩:=Fz (k:=9) (by omega) hv;have o1:=Jx a c (hk a (by simp)).1 (hk c (by simp)).1 (hk a (by simp)).2 (hk c (by simp)).2 5 5 [33,61] (by decide)
   have e1:VA 9 (an (.mk 9 n m nm v key [a,c]))=NA (an a) 5 [33,61] (an c) 5:=by
    unfold VA;rw [if_pos rfl,VB];rfl
   have e2:kY 9=4:=rfl;rw [e1,e2];clear e1 e2 hk ht XC;generalize NA (an a) 5 [33,61] (an c) 5=s at *;obtain ⟨ak,an',am,anm,av,akey,akids⟩:=a;obtain ⟨ck,cn,cm,cnm,cv,ckey,ckids⟩:=c;simp only [Bw,A1] at o1 |-;have q1:=AW akids;have q2:=AW ckids;generalize A1 akids=xs at *;generalize A1 ckids=ys at *;rw [EA rfl];rw [<- Al];rw [<- AI] at o1;simp only [Aa,Ac,Ab6,Aaw];simp only [S9,Af,seval,HY,Pu,Aau,o1,q1,q2];exact ⟨_,rfl⟩
 by_cases k10:k=10
 · subst k10
   obtain ⟨a,c,rfl⟩:=Fz (k:=10) (by omega) hv;have o1:=Jx c a (hk c (by simp)).1 (hk a (by simp)).1 (hk c (by simp)).2 (hk a (by simp)).2 5 5 [60,61] (by decide)
   have e1:VA 10 (an (.mk 10 n m nm v key [a,c]))=NA (an c) 5 [60,61] (an a) 5:=by
    unfold VA;rw [if_neg (by omega),if_pos rfl,VB];rfl
   have e2:kY 10=4:=rfl;rw [e1,e2];clear e1 e2 hk ht XC;generalize NA (an c) 5 [60,61] (an a) 5=s at *;obtain ⟨ak,an',am,anm,av,akey,akids⟩:=a;obtain ⟨ck,cn,cm,cnm,cv,ckey,ckids⟩:=c;simp only [Bw,A1] at o1 |-;have q1:=AW akids;have q2:=AW ckids;generalize A1 akids=xs at *;generalize A1 ckids=ys at *;rw [EA rfl];rw [<- Al];rw [<- AI] at o1;simp only [Aa,Ac,Ab6,Aaw];simp only [S9,Af,seval,HY,Pu,Aau,o1,q1,q2];exact ⟨_,rfl⟩
 have p9:(k == 9)=false:=by simpa using k9
 have p10:(k == 10)=false:=by simpa using k10
 have o1:=Ie _ ht XC 3;have kl:=Dk (an (.mk k n m nm v key kids)) 3;have e0:TX (.mk k n m nm v key kids)=(an (.mk k n m nm v key kids)).s:=rfl;rw [e0] at XC;have e1:VA k (an (.mk k n m nm v key kids))=cat [110,111,116,32] (EN (an (.mk k n m nm v key kids)) 3):=by unfold VA;rw [if_neg k9,if_neg k10]
 have e2:kY k=3:=by unfold kY;rw [if_neg k9,if_neg k10]
 rw [e1,e2];clear e0 e1 e2 ht hk;generalize EN (an (.mk k n m nm v key kids)) 3=s at *;have c1:=Cq (a:=[110,111,116,32]) (b:=s) (by simp only [Ab2,Ab8];omega);simp only [Bw] at o1 |-;generalize A1 kids=xs at *;rw [EA rfl];rw [<- Al];rw [<- AI] at o1;simp only [Aa,Ac,Ab6,Aaw];simp only [S9,Af,seval,HY,Pu,Aau,o1,c1,p9,p10];exact ⟨_,rfl⟩
theorem bP (k n m:Int) (nm:List UInt8) (v:Vl) (key:Ky) (kids:List Tr) (hv:Em k kids.length=true) (ht:NF (.mk k n m nm v key kids)) (XC:(TX (.mk k n m nm v key kids)).length<=200000) (hk:∀ t ∈ kids,NF t/\(TX t).length<=200000):NGc (.mk k n m nm v key kids):=fun bx=>by
 obtain ⟨c,hc⟩:=W6 k n m nm v key kids hv ht XC hk;exact Ao rfl (by simp only [AK,Bz,Bk,Ab4]) hc rfl
theorem FP (k n m:Int) (nm:List UInt8) (v:Vl) (key:Ky) (kids:List Tr):TX (.mk k n m nm v key kids)=Ll k n m nm v key kids (HP kids):=by unfold TX;rw [Y3];rfl
theorem Ho (k n m:Int) (nm:List UInt8) (v:Vl) (key:Ky) (kids:List Tr):LV (.mk k n m nm v key kids)=W3 k v kids:=by unfold LV;rw [Y3];rfl
theorem Y5 (n m:Int) (nm:List UInt8) (v:Vl) (key:Ky) (kids:List Tr) (hn:GY v.2.1) (hc:Ku v=0) (h0:v.1≠0):∃ bx,Ad CC 37 [Bw (.mk 1 n m nm v key kids)] []=some (.ret (.tup [.str (TX (.mk 1 n m nm v key kids)),.int .i64 (LV (.mk 1 n m nm v key kids))]),bx):=by
 have e1:TX (.mk 1 n m nm v key kids)=ZX v:=by rw [FP];unfold Ll;simp only [Aay,if_true,if_false]
 have e2:LV (.mk 1 n m nm v key kids)=gL v:=by rw [Ho];unfold W3;simp only [Aay,if_true,if_false]
 rw [e1,e2];have o1:=bM v hn hc h0;generalize ZX v=s at *;generalize gL v=lv at *;unfold PF at o1;simp only [Bw];generalize A1 kids=xs at *;clear e1 e2 hc h0;rw [Bc rfl];rw [<- Al];rw [<- AI] at o1;simp only [Aa,Ac,Aaz,Aaw];simp only [S9,Af,seval,HY,Pu,Aau,o1];exact ⟨_,rfl⟩
theorem Y6 (n m:Int) (nm:List UInt8) (v:Vl) (key:Ky) (kids:List Tr) (hl:kids.length<=1000) (hk:∀ t ∈ kids,NF t/\(TX t).length<=200000):∃ bx,Ad CC 37 [Bw (.mk 8 n m nm v key kids)] []=some (.ret (.tup [.str (TX (.mk 8 n m nm v key kids)),.int .i64 (LV (.mk 8 n m nm v key kids))]),bx):=by
 have e1:TX (.mk 8 n m nm v key kids)=Hn [111,114] 2 (HP kids) 0 []:=by rw [FP];unfold Ll;simp only [Aay,if_true,if_false]
 have e2:LV (.mk 8 n m nm v key kids)=1:=by rw [Ho];unfold W3;simp only [Aay,if_true,if_false]
 rw [e1,e2];have o1:=lj kids hl [111,114] (by decide) 2 hk;generalize Hn [111,114] 2 (HP kids) 0 []=s at *;simp only [Bw];generalize A1 kids=xs at *;clear e1 e2 hk;rw [Bc rfl];rw [<- Al];rw [<- AI] at o1;simp only [Aa,Ac,Aaz,Aaw];simp only [S9,Af,seval,HY,Pu,Aau,o1];exact ⟨_,rfl⟩
theorem Y7 (n m:Int) (nm:List UInt8) (v:Vl) (key:Ky) (kids:List Tr) (hl:kids.length<=1000) (hk:∀ t ∈ kids,NF t/\(TX t).length<=200000):∃ bx,Ad CC 37 [Bw (.mk 7 n m nm v key kids)] []=some (.ret (.tup [.str (TX (.mk 7 n m nm v key kids)),.int .i64 (LV (.mk 7 n m nm v key kids))]),bx):=by
 have e1:TX (.mk 7 n m nm v key kids)=Hn [97,110,100] 3 (HP kids) 0 []:=by rw [FP];unfold Ll;simp only [Aay,if_true,if_false]
 have e2:LV (.mk 7 n m nm v key kids)=2:=by rw [Ho];unfold W3;simp only [Aay,if_true,if_false]
 rw [e1,e2];have o1:=lj kids hl [97,110,100] (by decide) 3 hk;generalize Hn [97,110,100] 3 (HP kids) 0 []=s at *;simp only [Bw];generalize A1 kids=xs at *;clear e1 e2 hk;rw [Bc rfl];rw [<- Al];rw [<- AI] at o1;simp only [Aa,Ac,Aaz,Aaw];simp only [S9,Af,seval,HY,Pu,Aau,o1];exact ⟨_,rfl⟩
theorem Y8 (n m:Int) (nm:List UInt8) (v:Vl) (key:Ky) (kids:List Tr) (hv:Em 9 kids.length=true) (hk:∀ t ∈ kids,NF t/\(TX t).length<=200000):∃ bx,Ad CC 37 [Bw (.mk 9 n m nm v key kids)] []=some (.ret (.tup [.str (TX (.mk 9 n m nm v key kids)),.int .i64 (LV (.mk 9 n m nm v key kids))]),bx):=by
 obtain ⟨a,c,rfl⟩:=Fz (k:=9) (by omega) hv;have e1:TX (.mk 9 n m nm v key [a,c])=NA (an a) 5 [61,61] (an c) 5:=by rw [FP];unfold Ll;simp only [Aay,if_true,if_false];try rfl
 have e2:LV (.mk 9 n m nm v key [a,c])=4:=by rw [Ho];unfold W3;simp only [Aay,if_true,if_false];try rfl
 rw [e1,e2];have o1:=Jx a c (hk a (by simp)).1 (hk c (by simp)).1 (hk a (by simp)).2 (hk c (by simp)).2 5 5 [61,61] (by decide);clear e1 e2 hk;generalize NA (an a) 5 [61,61] (an c) 5=s at *;obtain ⟨ak,an',am,anm,av,akey,akids⟩:=a;obtain ⟨ck,cn,cm,cnm,cv,ckey,ckids⟩:=c;simp only [Bw,A1] at o1 |-;have q1:=AW akids;have q2:=AW ckids;generalize A1 akids=xs at *;generalize A1 ckids=ys at *;rw [Bc rfl];rw [<- Al];rw [<- AI] at o1;simp only [Aa,Ac,Aaz,Aaw];simp only [S9,Af,seval,HY,Pu,Aau,o1,q1,q2];exact ⟨_,rfl⟩
theorem W7 (n m:Int) (nm:List UInt8) (v:Vl) (key:Ky) (kids:List Tr) (hv:Em 10 kids.length=true) (hk:∀ t ∈ kids,NF t/\(TX t).length<=200000):∃ bx,Ad CC 37 [Bw (.mk 10 n m nm v key kids)] []=some (.ret (.tup [.str (TX (.mk 10 n m nm v key kids)),.int .i64 (LV (.mk 10 n m nm v key kids))]),bx):=by
 obtain ⟨a,c,rfl⟩:=Fz (k:=10) (by omega) hv;have e1:TX (.mk 10 n m nm v key [a,c])=NA (an a) 5 [60] (an c) 5:=by rw [FP];unfold Ll;simp only [Aay,if_true,if_false];try rfl
 have e2:LV (.mk 10 n m nm v key [a,c])=4:=by rw [Ho];unfold W3;simp only [Aay,if_true,if_false];try rfl
 rw [e1,e2];have o1:=Jx a c (hk a (by simp)).1 (hk c (by simp)).1 (hk a (by simp)).2 (hk c (by simp)).2 5 5 [60] (by decide);clear e1 e2 hk;generalize NA (an a) 5 [60] (an c) 5=s at *;obtain ⟨ak,an',am,anm,av,akey,akids⟩:=a;obtain ⟨ck,cn,cm,cnm,cv,ckey,ckids⟩:=c;simp only [Bw,A1] at o1 |-;have q1:=AW akids;have q2:=AW ckids;generalize A1 akids=xs at *;generalize A1 ckids=ys at *;rw [Bc rfl];rw [<- Al];rw [<- AI] at o1;simp only [Aa,Ac,Aaz,Aaw];simp only [S9,Af,seval,HY,Pu,Aau,o1,q1,q2];exact ⟨_,rfl⟩
theorem W8 (n m:Int) (nm:List UInt8) (v:Vl) (key:Ky) (kids:List Tr) (hv:Em 11 kids.length=true) (hk:∀ t ∈ kids,NF t/\(TX t).length<=200000):∃ bx,Ad CC 37 [Bw (.mk 11 n m nm v key kids)] []=some (.ret (.tup [.str (TX (.mk 11 n m nm v key kids)),.int .i64 (LV (.mk 11 n m nm v key kids))]),bx):=by
 obtain ⟨a,c,rfl⟩:=Fz (k:=11) (by omega) hv;have e1:TX (.mk 11 n m nm v key [a,c])=NA (an a) 5 [43] (an c) 6:=by rw [FP];unfold Ll;simp only [Aay,if_true,if_false];try rfl
 have e2:LV (.mk 11 n m nm v key [a,c])=5:=by rw [Ho];unfold W3;simp only [Aay,if_true,if_false];try rfl
 rw [e1,e2];have o1:=Jx a c (hk a (by simp)).1 (hk c (by simp)).1 (hk a (by simp)).2 (hk c (by simp)).2 5 6 [43] (by decide);clear e1 e2 hk;generalize NA (an a) 5 [43] (an c) 6=s at *;obtain ⟨ak,an',am,anm,av,akey,akids⟩:=a;obtain ⟨ck,cn,cm,cnm,cv,ckey,ckids⟩:=c;simp only [Bw,A1] at o1 |-;have q1:=AW akids;have q2:=AW ckids;generalize A1 akids=xs at *;generalize A1 ckids=ys at *;rw [Bc rfl];rw [<- Al];rw [<- AI] at o1;simp only [Aa,Ac,Aaz,Aaw];simp only [S9,Af,seval,HY,Pu,Aau,o1,q1,q2];exact ⟨_,rfl⟩
theorem W9 (n m:Int) (nm:List UInt8) (v:Vl) (key:Ky) (kids:List Tr) (hv:Em 13 kids.length=true) (hk:∀ t ∈ kids,NF t/\(TX t).length<=200000):∃ bx,Ad CC 37 [Bw (.mk 13 n m nm v key kids)] []=some (.ret (.tup [.str (TX (.mk 13 n m nm v key kids)),.int .i64 (LV (.mk 13 n m nm v key kids))]),bx):=by
 obtain ⟨a,c,rfl⟩:=Fz (k:=13) (by omega) hv;have e1:TX (.mk 13 n m nm v key [a,c])=NA (an a) 6 [42] (an c) 7:=by rw [FP];unfold Ll;simp only [Aay,if_true,if_false];try rfl
 have e2:LV (.mk 13 n m nm v key [a,c])=6:=by rw [Ho];unfold W3;simp only [Aay,if_true,if_false];try rfl
 rw [e1,e2];have o1:=Jx a c (hk a (by simp)).1 (hk c (by simp)).1 (hk a (by simp)).2 (hk c (by simp)).2 6 7 [42] (by decide);clear e1 e2 hk;generalize NA (an a) 6 [42] (an c) 7=s at *;obtain ⟨ak,an',am,anm,av,akey,akids⟩:=a;obtain ⟨ck,cn,cm,cnm,cv,ckey,ckids⟩:=c;simp only [Bw,A1] at o1 |-;have q1:=AW akids;have q2:=AW ckids;generalize A1 akids=xs at *;generalize A1 ckids=ys at *;rw [Bc rfl];rw [<- Al];rw [<- AI] at o1;simp only [Aa,Ac,Aaz,Aaw];simp only [S9,Af,seval,HY,Pu,Aau,o1,q1,q2];exact ⟨_,rfl⟩
end Go.HH
