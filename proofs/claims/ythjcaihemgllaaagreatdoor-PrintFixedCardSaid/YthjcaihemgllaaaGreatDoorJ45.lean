/-
  What the law needs, packed: RY UA UB UC UD UE E0 VB VQP VDP V11Q T1 E3 T2 T3 T4 T5 T6.
-/
import Derived.Test.YthjcaihemgllaaaGreatDoorJ44
open List renaming getElem?_concat_length->Aa0,length_singleton->Aa1,length_append->Aa6,length_cons->Aa8,length_nil->Aae,getD_eq_getElem?_getD->Aaf,mem_singleton->Aao,getElem_mem->Aar,mem_append->Aas,getElem?_eq_getElem->Aat,mem_range->Aax,mem_cons->Aay,range->Ab0
open Option renaming getD->Aa2
open Nat renaming le_of_ble_eq_true->Aa3,zero_le->Aan,le_refl->Aaz
open Int renaming reduceEq->Aa4
open Go.Proofs.Tryz renaming f37->Aa5,f120->Aa7,f70->Aa9,f71->Aac,f74->Aad,f68->Aah,f23->Aai,f73->Aaj,f69->Aak,f122->Aal,f121->Aam,f83->Aap,f72->Aaq
open Bool renaming and_self->Aaa,and_true->Aau,not_not->Aav
open Go.Lib renaming itoa->Aab,nDigits->Aag,nDigits_small->Aaw
namespace Go.HH
open Go Go.Proofs
set_option maxRecDepth 100000
set_option linter.unusedVariables false
theorem QA {α:Type} {t:Nat} {e:Int}:(PR.bad t e:PR α)≠.out:=fun e=>nomatch e
def ZA (L:List Tk):Nat:=12 * L.length+10
theorem Mg {L:List Tk} (hT:TokOK L) {i:Nat} (hi:i < L.length):D0 L (ZA L) i≠.out:=by
 unfold D0;refine Ay (kb hT _ _ _ _ hi (by unfold ZA;have:KR .expr=10:=rfl;omega)) fun a j _=>?_;split
 · exact A'
 · exact QA
theorem WH {L:List Tk} (hT:TokOK L) {i:Nat} (hi:i < L.length):BI L i≠.out:=by
 unfold BI;split
 · exact Ay IF fun _ _ _=>A'
 split
 · exact Ay IF fun _ _ _=>A'
 split
 · rename_i hk
   refine Ay Mf fun _ j r=>?_;split
   · rename_i Zx
     exact Ay (Vj hT (AM hT (E1 hT (AM hT hi hk (by decide)) r).2.1 Zx (by decide))) fun _ _ _=>A'
   · exact A'
 split
 · split
   · exact Ay F' fun _ _ _=>A'
   · exact A'
 split
 · exact A'
 · exact Ay B5 fun _ _ _=>Ay KS fun _ _ _=>A'
theorem gb {L:List Tk} (hT:TokOK L) {i:Nat} (hi:i < L.length):DV L (ZA L) i≠.out:=by
 unfold DV;split
 · rename_i hk
   have h0:=AM hT hi hk (by decide);refine Ay IF fun _ j r=>Ay B5 fun _ j2 r2=>?_;have h1:=(C1 hT h0 r).2.1;exact Ay (Mg hT (AW hT h1 (by decide) r2).2) fun _ _ _=>A'
 split
 · rename_i hk
   have h0:=AM hT hi hk (by decide);refine Ay IF fun _ j r=>?_;have h1:=(C1 hT h0 r).2.1;split
   · rename_i Zx
     exact Ay (Mg hT (AM hT h1 Zx (by decide))) fun _ _ _=>Ay B5 fun _ _ _=>A'
   · exact A'
 split
 · exact Ay F' fun _ _ _=>A'
 split
 · exact Ay F' fun _ _ _=>A'
 · exact Ay B5 fun _ _ _=>Ay j8 fun _ _ _=>A'
theorem Nl {α:Type} {L:List Tk} (hT:TokOK L) {w:List UInt8} {part:Nat->PR α} (hp:∀ i,i < L.length->part i≠.out) (Bz:∀ i a j,i < L.length->part i=.ok a j->j < L.length):∀ (m:Nat) (acc:List α) (i:Nat),i < L.length->acc.length<=8->9<=acc.length+m->Bw L w part m acc i≠.out:=by
 intro m
 induction m with
 | zero=>intro acc i hi h1 h2;omega
 | succ m ih=>
  intro acc i hi h1 h2;rw [Bw];split
  · split
    · exact QA
    · refine Ay B5 fun _ j r=>?_
      have h3:=(AW hT hi (by decide) r).2;refine Ay (hp _ h3) fun a j2 r2=>Ay B5 fun _ j3 r3=>?_;have h4:=Bz _ _ _ h3 r2;exact ih _ _ (AW hT h4 (by decide) r3).2 (by rw [Aa6,Aa1];omega) (by rw [Aa6,Aa1];omega)
  · exact A'
theorem gd {L:List Tk} (hT:TokOK L) (rs:List Rl) {i:Nat} (hi:i < L.length):JF L (ZA L) rs i≠.out:=by
 unfold JF;split
 · exact QA
 refine Ay B5 fun _ i0 r0=>Ay F' fun nm i1 r1=>?_;have h0:=(AW hT hi (by decide) r0).2;have h1:=(CI hT h0 r1).2;split
 · exact QA
 refine Ay ?_ fun pr i2 r2=>Ay B5 fun _ i3 r3=>?_
 · split
   · exact KS
   · exact A'
 have h2:i2 < L.length:=by
  split at r2
  · rename_i hk
    exact (Ft hT (AM hT h1 hk (by decide)) r2).2.1
  · injection r2 with _ r2
    exact r2 ▸ h1
 have h3:=(AW hT h2 (by decide) r3).2;refine Ay (Nl hT (fun i hi=>WH hT hi) (fun i a j hi h=>E6 hT hi h) _ _ _ h3 (by simp) (by simp)) fun on i4 r4=>?_;have h4:=Gl hT (fun i a j hi h=>E6 hT hi h) _ _ _ _ _ h3 (by simp) r4;refine Ay ?_ fun e i5 r5=>?_
 · split
   · rename_i hk
     exact Ay (Mg hT (AM hT h4.1 hk (by decide))) fun _ _ _=>Ay B5 fun _ _ _=>A'
   · exact A'
 have h5:i5 < L.length:=by
  split at r5
  · rename_i hk
    obtain ⟨_,i6,r6,r7⟩:=Aj r5;obtain ⟨_,i8,r8,r9⟩:=Aj r7;have h6:=E3 hT (AM hT h4.1 hk (by decide)) r6;have h8:=(AW hT h6.2 (by decide) r8).2;injection r9 with _ r9
    exact r9 ▸ h8
  · injection r5 with _ r5
    exact r5 ▸ h4.1
 exact Ay (Nl hT (fun i hi=>gb hT hi) (fun i a j hi h=>KO hT hi h) _ _ _ h5 (by simp) (by simp)) fun _ _ _=>Ay B5 fun _ _ _=>A'
theorem aX {L:List Tk} (hT:TokOK L):∀ (m:Nat) (rs:List Rl) (i:Nat),i < L.length->rs.length<=40->42<=rs.length+m->Ed L (ZA L) m rs i≠.out:=by
 intro m
 induction m with
 | zero=>intro rs i hi h1 h2;omega
 | succ m ih=>
  intro rs i hi h1 h2;rw [Ed];split
  · exact A'
  · refine Ay (gd hT rs hi) fun r j hr=>?_
    have h3:=R6 hT hi hr;exact ih _ _ h3.1 (by rw [Aa6,Aa1];omega) (by rw [Aa6,Aa1];omega)
def DK (s:List UInt8):List Rl×Nat×Int:=if (BD s).2.2=0 then (match Ed (BD s).1 (ZA (BD s).1) 42 [] 0 with
 | .ok l _=>(l,0,0)
 | .bad t c=>([],t,c)
 | .out=>([],0,0)) else ([],(BD s).2.1,(BD s).2.2)
section
variable {f:Nat->Nat} {L:List Tk}
end
def wI (x y:Tk):Prop:=(x.1=y.1/\x.2.1=y.2.1)\/(x.1=0/\y.1=4/\y.2.1=[41])
def kc (L M:List Tk) (s j:Nat):Prop:=∀ k,k<=j->wI (tokAt L k) (tokAt M (k+s))
theorem kc.mono {L M:List Tk} {s j j':Nat} (h:kc L M s j) (hj:j'<=j):kc L M s j':=fun k hk=>h k (Nat.le_trans hk hj)
section
variable {L M:List Tk} {s:Nat}
end
set_option linter.unusedSimpArgs false
section
variable (p t:List UInt8)
end
section
variable (s t:List UInt8)
theorem di {s:List UInt8} (h:s.length<=20000):BD s=tk s (sk s 0) []:=by unfold BD;rw [if_neg (by omega)];rfl
end
theorem aY (s:List UInt8) (i k:Nat):((s.take k).drop i).length<=s.length:=by
 rw [List.length_drop,List.length_take];omega
theorem oq {s:List UInt8} {i:Nat} {t:Tk} {k:Nat} (ho:FJ s i=.inl (t,k)):t.2.2=i/\(t.1=3\/t.2.1.length<=s.length):=by
 unfold FJ at ho;simp only at ho;split at ho
 · injection ho with ho
   injection ho with h1 h2
   subst h1;exact ⟨rfl,.inr (aY s _ _)⟩
 · split at ho
   · split at ho
     · injection ho with ho
       injection ho with h1 h2
       subst h1;exact ⟨rfl,.inr (aY s _ _)⟩
     · cases ho
   · split at ho
     · split at ho
       · injection ho with ho
         injection ho with h1 h2
         subst h1;exact ⟨rfl,.inl rfl⟩
       · cases ho
     · split at ho
       · cases ho
       · injection ho with ho
         injection ho with h1 h2
         subst h1;exact ⟨rfl,.inr (aY s _ _)⟩
theorem wJ (s:List UInt8):∀ (d i:Nat) (acc:List Tk),s.length - i<=d->i<=s.length->(tk s i acc).2.1<=s.length/\∀ x ∈ (tk s i acc).1,x ∈ acc\/(x.2.2<=s.length/\(x.1=3\/x.2.1.length<=s.length)):=by
 have mD:∀ i acc,i<=s.length->¬ i < s.length->(tk s i acc).2.1<=s.length/\∀ x ∈ (tk s i acc).1,x ∈ acc\/(x.2.2<=s.length/\(x.1=3\/x.2.1.length<=s.length)):=fun i acc h hc=>by
  rw [RH _ h,if_neg hc];refine ⟨Aan _,fun x hx=>?_⟩;rcases Aas.1 hx with hx | hx
  · exact .inl hx
  · rw [Aao] at hx
    subst hx;exact .inr ⟨Aaz _,.inr (Aan _)⟩
 intro d
 induction d with
 | zero=>intro i acc h hl;exact mD i acc hl (by omega)
 | succ d ih=>
  intro i acc h hl;by_cases c:i < s.length
  · rw [RH _ hl,if_pos c]
    split
    · exact ⟨hl,fun x hx=>by cases hx⟩
    · cases ho:FJ s i with
      | inr e=>exact ⟨hl,fun x hx=>by cases hx⟩
      | inl y=>
       obtain ⟨x,k⟩:=y;have hC:=MY c ho;have hle:=Va hC.2;obtain ⟨g1,g2⟩:=oq ho;obtain ⟨f1,f2⟩:=ih (sk s k) (acc++[x]) (by omega) hle.2;refine ⟨f1,fun z hz=>?_⟩;rcases f2 z hz with hz | hz
       · rcases Aas.1 hz with hz | hz
         · exact .inl hz
         · rw [Aao] at hz
           subst hz;exact .inr ⟨by omega,g2⟩
       · exact .inr hz
  · exact mD i acc hl c
theorem ot (s:List UInt8) (hs:s.length<=20000):(BD s).2.1<=s.length/\∀ x ∈ (BD s).1,x.2.2<=s.length/\(x.1=3\/x.2.1.length<=s.length):=by
 rw [di hs];have hle:=Va (s:=s) (i:=0) (by omega);obtain ⟨h1,h2⟩:=wJ s s.length (sk s 0) [] (by omega) hle.2;exact ⟨h1,fun x hx=>(h2 x hx).resolve_left (fun h=>by cases h)⟩
theorem R':∀ {r:List Tk},Og r->∀ x ∈ r,cF x
 | [],_,_,h=>by cases h
 | y :: r,hc,x,h=>by
  rcases Aay.1 h with rfl | h
  · exact hc.1
  · exact R' hc.2.2 x h
theorem YG:∀ (w:List UInt8) (n:Nat),n<=1099511627776->(RC w n).isSome=true->amtN w n<=1099511627776
 | [],n,h,_=>h
 | c :: r,n,h,hs=>by
  unfold RC at hs;split at hs
  · cases hs
  · rename_i h1
    exact YG r (10 * n+(c.toNat - 48)) (by omega) hs
theorem gf {L:List Tk} (i:Nat):tokAt L i ∈ L\/tokAt L i=(0,[],0):=by
 unfold tokAt;rw [Aaf];cases h:L[i]? with
 | none=>exact .inr rfl
 | some x=>exact .inl (List.mem_of_getElem? h)
theorem aZ (s:List UInt8) (hs:s.length<=20000) (h0:(BD s).2.2=0):∃ r,BD s=(r++[(0,[],s.length)],0,0)/\Og r/\r.length<=s.length:=by
 have hle:=Va (s:=s) (i:=0) (by omega);rw [di (by omega)] at h0 |-;obtain ⟨r,g1,g2,g3,g4,_⟩:=fE s s.length (sk s 0) [] (by omega) hle.2 (cG s _ 0 (Aaz _) (by omega)) h0;rw [List.nil_append] at g1;exact ⟨r,g1,g2,by omega⟩
theorem ke {s:List UInt8} (hs:s.length<=20000) {r:List Tk} (h:BD s=(r++[(0,[],s.length)],0,0)) (hc:Og r) (hr:r.length<=s.length):TokOK (r++[(0,[],s.length)]):=by
 have Ho:=(ot s (by omega)).2;rw [h] at Ho;have hlen:(r++[(0,[],s.length)]).length=r.length+1:=by rw [Aa6];rfl
 have hg:=R' hc
 have Zv:∀ x ∈ r++[(0,[],s.length)],x.1=0/\x.2.1=[]\/cF x:=fun x hx=>by
  rcases Aas.1 hx with hx | hx
  · exact .inr (hg x hx)
  · rw [Aao] at hx
    subst hx;exact .inl ⟨rfl,rfl⟩
 have D1:∀ i,tokAt (r++[(0,[],s.length)]) i=(0,[],0)\/(tokAt (r++[(0,[],s.length)]) i ∈ r++[(0,[],s.length)]):=fun i=>(gf i).symm;have hl:(r++[((0,[],s.length):Tk)]).length<=4001:=by have:=jr s;rw [h] at this;exact this
 refine ⟨hl,by omega,?_,fun i hi=>?_,fun i=>?_,fun i=>?_,fun i h3=>?_,fun i h2=>?_⟩
 · rw [hlen]
   unfold tokAt;rw [Aaf,List.getElem?_append_right (by omega),show r.length+1 - 1 - r.length=0 from by omega];rfl
 · have Gu:i < r.length:=by omega
   have:tokAt (r++[(0,[],s.length)]) i ∈ r:=by
    unfold tokAt;rw [Aaf,List.getElem?_append_left Gu,Aat Gu];exact Aar Gu
   rcases hg _ this with h | h | h | h <;> (rw [h.1];decide)
 · unfold atT
   rcases D1 i with h | h
   · rw [h];exact Aan _
   · have:=(Ho _ h).1;omega
 · rcases D1 i with h | h
   · rw [h];exact Aan _
   · rcases (Ho _ h).2 with h3 | h3
     · rcases Zv _ h with h4 | h4 | h4 | h4 | h4
       · rw [h4.2];exact Aan _
       · rw [h4.1] at h3;cases h3
       · rw [h4.1] at h3;cases h3
       · omega
       · rw [h4.1] at h3;cases h3
     · omega
 · rcases D1 i with h | h
   · rw [h] at h3;cases h3
   · rcases Zv _ h with h4 | h4 | h4 | h4 | h4
     · rw [h4.1] at h3;cases h3
     · rw [h4.1] at h3;cases h3
     · rw [h4.1] at h3;cases h3
     · exact h4.2
     · rw [h4.1] at h3;cases h3
 · rcases D1 i with h | h
   · rw [h] at h2;cases h2
   · rcases Zv _ h with h4 | h4 | h4 | h4 | h4
     · rw [h4.1] at h2;cases h2
     · rw [h4.1] at h2;cases h2
     · refine ⟨fun b hb=>?_,YG _ 0 (by omega) h4.2.2.2⟩
       have:=h4.2.2.1 b hb;unfold dg at this;simpa using this
     · rw [h4.1] at h2;cases h2
     · rw [h4.1] at h2;cases h2
theorem Mh (s:List UInt8) (hs:s.length<=20000) (h0:(BD s).2.2=0):TokOK (BD s).1:=by
 obtain ⟨r,h1,h2,h3⟩:=aZ s hs h0;have:=ke hs h1 h2 h3;rw [h1];exact this
theorem KU (s:List UInt8) (hs:s.length<=20000) (bx:List PBox):Ai CC (Ad CC) 24 [.str s] bx=some (.ret (.tup [.sl ((DK s).1.map DS),.int .i64 ((DK s).2.1:Int),.int .i64 (DK s).2.2]),bx):=by
 have h:Ad CC 24 [.str s] []=some (.ret (.tup [.sl ((DK s).1.map DS),.int .i64 ((DK s).2.1:Int),.int .i64 (DK s).2.2]),[]):=by
  unfold DK;by_cases h0:(BD s).2.2=0
  · rw [if_pos h0]
    have hT:=Mh s hs h0;have hw:=aX hT 42 [] 0 hT.pos (by simp) (by simp);cases hr:Ed (BD s).1 (ZA (BD s).1) 42 [] 0 with
    | out=>exact absurd hr hw
    | bad t c=>
     rw [R8 s (by omega) h0 hT _ _ hr];rfl
    | ok l j=>
     cases l with
     | nil=>
      rw [R9 s (by omega) h0 hT _ _ hr];rfl
     | cons x rs=>
      rw [P4 s (by omega) h0 hT _ _ hr];rfl
  · rw [if_neg h0,R7 s (by omega) h0]
    rfl
 refine Aq rfl (by simp only [SA,Aau]) h ?_;simp only [PV.pure,Al,map_pure DS Fy,Aau]
set_option maxHeartbeats 4000000
def qE (t:Tr):Prop:=∃ bx,Ad CC 23 [BE t,BE t] []=some (.ret (.bool true),bx)
theorem qF {t:Tr} (h:qE t) (bx):Ai CC (Ad CC) 23 [BE t,BE t] bx=some (.ret (.bool true),bx):=by
 obtain ⟨q,hq⟩:=h;exact Aq rfl (by simp only [AO,BH,Bu,Aaa]) hq rfl
theorem ou (L:Code) (hL:L=Ab Aai [1,1,0,1,0]) (a0 a1 a2 a3 a4 a5 a6 a7 a8 a9:PV) (l:List Tr) (hl:l.length<=12) (hk:∀ t ∈ l,qE t):∀ (k i:Nat) (e:List PV),i+k=l.length->getT e 2=.bp 0 0->getT e 3=.bp 1 0->getT e 5=.int .i64 i->∃ e' bx',Co CC L ⟨e,[.cells 29 [a0,a1,a2,a3,a4,a5,a6,a7,a8,a9,.sl (A8 l)],.cells 29 [a0,a1,a2,a3,a4,a5,a6,a7,a8,a9,.sl (A8 l)]]⟩=some (.exit 0,⟨e',bx'⟩):=by
 intro k
 induction k with
 | zero=>
  intro i e D3 e2 e3 e5;rw [A3 (Ab Aai [1,1,0,1,0,0]) hL];have hi:¬ ((i:Int) < (l.length:Int)):=by omega
  have Lz:=Dg l;generalize A8 l=xs at *;rw [<- An];simp only [Ab,Ac,Aai,Aa2];simp only [S9,Ag,seval,CX,Az,Gj,Cu,Aav,e2,e3,e5,Lz,hi];exact ⟨_,_,rfl⟩
 | succ k ih=>
  intro i e D3 e2 e3 e5;rw [A3 (Ab Aai [1,1,0,1,0,0]) hL];have hi:((i:Int) < (l.length:Int)):=by omega
  have Gb:¬ ((i:Int) < 0):=by omega
  have hx:l[i]?=some (l[i]'(by omega)):=by simp
  have Ez:qE (l[i]'(by omega)):=hk _ (Aar _);generalize l[i]'(by omega)=x at *;have Hw:=Rf hx;have Lz:=Dg l;have Mt:=wrap_i64 (n:=(i:Int)+1) ⟨by omega,by omega⟩;have key:=fun e=>ih (i+1) e (by omega);have cast1:((i+1:Nat):Int)=(i:Int)+1:=by omega
  rw [cast1] at key;have Bc:=qF Ez;obtain ⟨xk,xn,xm,xnm,xv,xkey,xkids⟩:=x;unfold BE at Hw Bc;have mH:=AY xkids;generalize A8 xkids=ys at *;generalize A8 l=xs at *;rw [<- An];rw [<- An] at key;rw [<- AL] at Bc;simp only [Ab,Ac,Aai,Aa2];simp only [S9,Ag,seval,CX,Az,Gj,Cu,Aav,e2,e3,e5,Lz,hi,Gb,Hw,Mt,Bc,mH,PV.pure,Al];refine key _ ?_ ?_ ?_
  all_goals simp only [S7,Ag,seval,e2,e3,e5]
theorem ov (k n m:Int) (nm:List UInt8) (v:Vl) (key:Ky) (kids:List Tr) (uE:kids.length<=12) (hk:∀ t ∈ kids,qE t):qE (.mk k n m nm v key kids):=by
 obtain ⟨vk,vn,vs⟩:=v;obtain ⟨dv,cl,at_⟩:=key;have h1:∀ z:Int,(z != z)=false:=fun z=>by simp
 have h4:EB .neq nm nm=some (.bool false):=by rw [DD];simp
 have h5:Mu CC 100 24 (.agg [.int .i64 vk,.int .i64 vn,.str vs]) (.agg [.int .i64 vk,.int .i64 vn,.str vs])=some true:=by rw [nK];simp
 have h6:Mu CC 100 26 (.agg [.int .i64 dv,.str cl,.str at_]) (.agg [.int .i64 dv,.str cl,.str at_])=some true:=by rw [fl];simp
 have Lz:=Dg kids;have Af:=fun L hL a0 a1 a2 a3 a4 a5 a6 a7 a8 a9 e=>ou L hL a0 a1 a2 a3 a4 a5 a6 a7 a8 a9 kids uE hk kids.length 0 e (by omega);unfold qE BE;generalize A8 kids=xs at *;rw [Ah (fn:=Aai) (c:=Aai.body.getD .skip) rfl rfl Wx rfl Yw (Aa3 rfl)];rw [<- An];rw [<- An] at Af;simp only [Ab,Ac,Aai,Aa2];simp only [S9,Ag,seval,CX,Az,Gj,Cu,Aav,h1,h4,h5,h6];generalize hE:Hp (Code.loop _) _=z
 have hP:∃ e' bx',z=some (.exit 0,⟨e',bx'⟩):=by
  rw [<- hE];refine Af _ rfl _ _ _ _ _ _ _ _ _ _ _ ?_ ?_ ?_
  all_goals first | (simp only [S7,Ag,seval];done) | (simp only [S7,Ag,seval] <;> rfl)
 obtain ⟨e',bx',he⟩:=hP;subst he;simp only [S8,Ag,seval];exact ⟨_,rfl⟩
mutual
theorem dj (t:Tr) (hs:EJ t):qE t:=by
 match t,hs with
 | .mk k n m nm v key kids,hs=>
  have h2:C5 kids:=by unfold EJ at hs;exact hs.2
  exact ov k n m nm v key kids (by unfold EJ at hs;exact hs.1.2.2.2.2) (YH kids h2)
theorem YH (l:List Tr) (hs:C5 l):∀ t ∈ l,qE t:=by
 match l,hs with
 | [],_=>intro t ht;simp at ht
 | x :: r,hs=>
  intro t ht;unfold C5 at hs;rcases Aay.1 ht with h | h
  · rw [h];exact dj x hs.1
  · exact YH r hs.2 t h
end
theorem Nn (t:Tr) (hs:EJ t) (bx):Ai CC (Ad CC) 23 [BE t,BE t] bx=some (.ret (.bool true),bx):=qF (dj t hs) bx
theorem Uf:Be CC Aap (Aap.body.getD .skip)=true:=by kernel_rfl
theorem Sa:CC.P.funcs[83]?=some Aap:=by kernel_rfl
theorem Dk {n:Int} (h:Dx n):(Aab n).length<=21:=by
 have key:∀ u:Nat,u<=9223372036854775808->(Lib.decDigits u).length<=20:=by
  intro u hu;rw [Lib.decDigits_length];rcases Nat.lt_or_ge 20 (Aag u) with h | h
  · exfalso
    have hp:10 ^ 20<=10 ^ (Aag u - 1):=Nat.pow_le_pow_right (by omega) (by omega)
    have:10 ^ (Aag u - 1)<=u:=by
     have gen:∀ v:Nat,1<=v->10 ^ (Aag v - 1)<=v:=by
      intro v
      induction v using Nat.strongRecOn with
      | _ v ih=>
       intro hv;by_cases hs:v < 10
       · rw [Aaw hs];simpa using hv
       · rw [Lib.nDigits_big hs,Nat.add_sub_cancel]
         have h1:=ih (v / 10) (by omega) (by omega);have h2:Aag (v / 10)=Aag (v / 10) - 1+1:=by have:=Lib.nDigits_pos (v / 10);omega
         rw [h2,Nat.pow_succ];omega
     apply gen;rcases Nat.eq_zero_or_pos u with hz | hz
     · subst hz;rw [Aaw (by omega)] at h;omega
     · exact hz
    omega
  · exact h
 unfold Aab;split
 · have:=key n.natAbs (by omega)
   simp only [Aa8];omega
 · have:=key n.toNat (by omega)
   omega
theorem P5 (n:Int) (h:Dx n):Ad CC 83 [.int .i64 n] []=some (.ret (.str (Aab n)),[]):=by
 rw [Ah (fn:=Aap) (c:=Aap.body.getD .skip) rfl rfl Sa rfl Uf (Aa3 rfl)];rw [<- An];have o_strconv_Itoa:=@Pr;rw [<- AL] at o_strconv_Itoa;have h1:=o_strconv_Itoa n h;simp only [Ab,Ac,Aap,Aa2];simp only [S7,Ag,seval,TG,h1]
theorem EH (n:Int) (h:Dx n) (bx):Ai CC (Ad CC) 83 [.int .i64 n] bx=some (.ret (.str (Aab n)),bx):=Aq rfl (by simp only [SA,Aau]) (P5 n h) rfl
theorem ow {a b:List UInt8} (h:a.length+b.length<=1000000):EB .add a b=some (.str (a++b)):=by
 unfold EB ZJ;simp only;rw [if_pos (by omega)]
theorem kg (l:List UInt8):Gh CC 70 9 (.sl (GQ l))=some (.str l):=by
 unfold Gh;simp only [TG,CJ,Pc,Option.map_some]
def isD (c:UInt8):Bool:=decide (48<=c.toNat) && decide (c.toNat<=57)
def pr:List UInt8->Int->Option Int
 | [],n=>some n
 | c :: r,n=>if isD c then pr r (10 * n+((c.toNat:Int) - 48)) else none
theorem Sc:Be CC Aa7 (Aa7.body.getD .skip)=true:=by kernel_rfl
theorem P6:CC.P.funcs[120]?=some Aa7:=by kernel_rfl
def sN:List UInt8:=[110,111,110,101]
def sT:List UInt8:=[116,114,117,101]
def sF:List UInt8:=[102,97,108,115,101]
def ZB (v:Vl):List UInt8:=if JL v≠0 then [] else if v.1=0 then sN else if v.1=1 then (if v.2.1=1 then sT else sF) else if v.1=2 then Aab v.2.1 else if v.1=3 then 35 :: Aab v.2.1 else BC v.2.2
theorem ba {v:Vl} (h:JL v=0):v.2.2.length<=60/\(v.1=0\/v.1=1\/v.1=2\/v.1=3\/v.1=4)/\(v.1≠4->v.2.2=[]):=by
 obtain ⟨k,n,s⟩:=v;unfold JL at h;simp only at h |-;cases ho:NW k n with
 | none=>rw [ho] at h;cases h
 | some b=>
  rw [ho] at h;cases b with
  | false=>cases h
  | true=>
   simp only at h;by_cases hl:60 < s.length
   · rw [if_pos hl] at h;cases h
   · rw [if_neg hl] at h
     refine ⟨by omega,?_,fun k4=>?_⟩
     · unfold NW at ho
       by_cases e0:k=0\/k=4
       · omega
       · rw [if_neg e0] at ho
         by_cases e1:k=1
         · omega
         · rw [if_neg e1] at ho
           by_cases e2:k=2
           · omega
           · rw [if_neg e2] at ho
             by_cases e3:k=3
             · omega
             · rw [if_neg e3] at ho;cases ho
     · by_cases hs:s=[]
       · exact hs
       · rw [if_pos ⟨hs,k4⟩] at h;cases h
theorem Ox (v:Vl) (hn:Dx v.2.1):∃ bx,Ad CC 120 [Q' v] []=some (.ret (.str (ZB v)),bx):=by
 rw [Ah (fn:=Aa7) (c:=Aa7.body.getD .skip) rfl rfl P6 rfl Sc (Aa3 rfl)];have hc:=Kk v;have Mw:=ba (v:=v);have hd:=EH v.2.1 hn;have OW:=Dk hn;have hadd:=ow (a:=[35]) (b:=Aab v.2.1) (by simp only [Aa1];omega);have hq:=fun h=>Kp v.2.2 h;unfold ZB;by_cases c0:JL v=0
 · rw [if_neg (fun h=>h c0)]
   rw [c0] at hc;obtain ⟨l1,l2,_⟩:=Mw c0;have hq:=hq (by omega);clear Mw;obtain ⟨k,n,s⟩:=v;unfold Q' at *;simp only at *;generalize Aab n=d at *;generalize BC s=q at *;rcases l2 with rfl | rfl | rfl | rfl | rfl
   · rw [if_pos rfl]
     have hN:sN=[110,111,110,101]:=rfl;rw [hN];rw [<- An];rw [<- AL] at hc hd hq;simp only [Ab,Ac,Aa7,Aa2];simp only [S8,Ag,SG,seval,UT,SC,hc];exact ⟨_,rfl⟩
   · rw [if_neg (by decide),if_pos rfl]
     by_cases n1:n=1
     · have n1p:(n == 1)=true:=by simp [n1]
       rw [if_pos n1];have hN:sT=[116,114,117,101]:=rfl;rw [hN];rw [<- An];rw [<- AL] at hc hd hq;simp only [Ab,Ac,Aa7,Aa2];simp only [S8,Ag,SG,seval,UT,SC,hc,n1p];exact ⟨_,rfl⟩
     · have n1p:(n == 1)=false:=by simpa using n1
       rw [if_neg n1];have hN:sF=[102,97,108,115,101]:=rfl;rw [hN];rw [<- An];rw [<- AL] at hc hd hq;simp only [Ab,Ac,Aa7,Aa2];simp only [S8,Ag,SG,seval,UT,SC,hc,n1p];exact ⟨_,rfl⟩
   · rw [if_neg (by decide),if_neg (by decide),if_pos rfl]
     rw [<- An];rw [<- AL] at hc hd hq;simp only [Ab,Ac,Aa7,Aa2];simp only [S8,Ag,SG,seval,UT,SC,hc,hd];exact ⟨_,rfl⟩
   · rw [if_neg (by decide),if_neg (by decide),if_neg (by decide),if_pos rfl]
     rw [show (35 :: d:List UInt8)=[35]++d from rfl];generalize [35]++d=d2 at *;rw [<- An];rw [<- AL] at hc hd hq;simp only [Ab,Ac,Aa7,Aa2];simp only [S8,Ag,SG,seval,UT,SC,hc,hd,hadd];exact ⟨_,rfl⟩
   · rw [if_neg (by decide),if_neg (by decide),if_neg (by decide),if_neg (by decide)]
     rw [<- An];rw [<- AL] at hc hd hq;simp only [Ab,Ac,Aa7,Aa2];simp only [S8,Ag,SG,seval,UT,SC,hc,hq];exact ⟨_,rfl⟩
 · rw [if_pos c0]
   have c0p:(JL v != 0)=true:=by simpa using c0
   generalize JL v=c at *;unfold Q' at *;rw [<- An];rw [<- AL] at hc;simp only [Ab,Ac,Aa7,Aa2];simp only [S8,Ag,SG,seval,UT,SC,hc,c0p];exact ⟨_,rfl⟩
theorem Sd (v:Vl) (hn:Dx v.2.1) (bx):Ai CC (Ad CC) 120 [Q' v] bx=some (.ret (.str (ZB v)),bx):=by
 obtain ⟨b,h⟩:=Ox v hn;exact Aq rfl rfl h rfl
def cat (a b:List UInt8):List UInt8:=a++b
theorem AD (a b:List UInt8):(cat a b).length=a.length+b.length:=Aa6
theorem Cp {a b:List UInt8} (h:a.length+b.length<=2 ^ 60):EB .add a b=some (.str (cat a b)):=if_pos h
def qG (n:Nat):UInt8:=UInt8.ofNat (48+n)
def bc:List (List UInt8):=[[109,111,110],[116,117,101],[119,101,100],[116,104,117],[102,114,105],[115,97,116],[115,117,110]]
def WI:Nat->List (List UInt8)->List UInt8
 | _,[]=>[]
 | m,w :: r=>if m % 2=1 then (if m / 2=0 then w else w++44 :: WI (m / 2) r) else WI (m / 2) r
def P7 (m:Nat):List UInt8:=[100,97,121,115,32]++WI m bc
noncomputable def ox (f:FuncId) (g:Nat->List UInt8) (n:Nat):Bool:=match Ff CC 80 f [.int .i64 (n:Int)] [] with
 | some (.ret (.str s),_)=>s == g n
 | _=>false
theorem dp {f:FuncId} {g:Nat->List UInt8} {l:List Nat} (h:l.all (ox f g)=true) (n:Nat) (hn:n ∈ l):∃ bx,Ad CC f [.int .i64 (n:Int)] []=some (.ret (.str (g n)),bx):=by
 have:=List.all_eq_true.1 h n hn;unfold ox at this;split at this
 · rename_i s bx hs
   have e:s=g n:=by simpa using this
   subst e;exact ⟨_,ES.2 ⟨80,hs⟩⟩
 · cases this
theorem kh:((Ab0 127).map (·+1)).all (ox 123 P7)=true:=by kernel_rfl
theorem dq (n:Int) (h:1<=n/\n<=127) (bx):Ai CC (Ad CC) 123 [.int .i64 n] bx=some (.ret (.str (P7 n.toNat)),bx):=by
 obtain ⟨b,hc⟩:=dp kh n.toNat (List.mem_map.2 ⟨n.toNat - 1,Aax.2 (by omega),by omega⟩);rw [show ((n.toNat:Nat):Int)=n by omega] at hc;exact Aq rfl rfl hc rfl
def Se (n:Nat):List UInt8:=[qG (n / 10),qG (n % 10)]
theorem oy:(Ab0 60).all (ox 153 Se)=true:=by kernel_rfl
theorem ki (n:Nat) (h:n < 60) (bx):Ai CC (Ad CC) 153 [.int .i64 (n:Int)] bx=some (.ret (.str (Se n)),bx):=by
 obtain ⟨b,hc⟩:=dp oy n (Aax.2 h);exact Aq rfl rfl hc rfl
def FL (n:Nat):List UInt8:=[qG (n / 60 / 10),qG (n / 60 % 10),58,qG (n % 60 / 10),qG (n % 60 % 10)]
theorem oz (n k:Nat):((n:Int).tdiv (k:Int))=((n / k:Nat):Int):=by rw [Int.tdiv_eq_ediv_of_nonneg (by omega)];rfl
theorem oA (n k:Nat):((n:Int).tmod (k:Int))=((n % k:Nat):Int):=by rw [Int.tmod_eq_emod_of_nonneg (by omega)];rfl
theorem Sf:Be CC Aal (Aal.body.getD .skip)=true:=by kernel_rfl
theorem P8:CC.P.funcs[122]?=some Aal:=by kernel_rfl
theorem P9:Be CC Aam (Aam.body.getD .skip)=true:=by kernel_rfl
theorem Oy:CC.P.funcs[121]?=some Aam:=by kernel_rfl
theorem FNi:∃ a b v,CC.P.underlying 75=some (.func a b v):=by
 have h:(match Tryz.prog.underlying 75 with | some (.func _ _ _)=>true | _=>false)=true:=by kernel_rfl
 split at h
 · rename_i a b v e;exact ⟨a,b,v,e⟩
 · cases h
theorem bd (n:Nat) (h:n < 1440):∃ bx,Ad CC 122 [.int .i64 (n:Int)] []=some (.ret (.str (FL n)),bx):=by
 have o1:=ki (n / 60) (by omega);have o2:=ki (n % 60) (by omega);have q1:=oz n 60;have q2:=oA n 60;have w1:=wrap_i64 (n:=((n / 60:Nat):Int)) ⟨by omega,by omega⟩;have w2:=wrap_i64 (n:=((n % 60:Nat):Int)) ⟨by omega,by omega⟩;have c1:=Cp (a:=Se (n / 60)) (b:=[58]) (by simp [Se]);have c2:=Cp (a:=cat (Se (n / 60)) [58]) (b:=Se (n % 60)) (by simp [Se,cat]);have e:FL n=cat (cat (Se (n / 60)) [58]) (Se (n % 60)):=rfl;have k60:((60:Nat):Int)=60:=rfl;rw [k60] at q1 q2;rw [e];obtain ⟨fa,fb,fv,mo⟩:=FNi;generalize Se (n / 60)=s1 at *;generalize Se (n % 60)=s2 at *;generalize ((n / 60:Nat):Int)=x1 at *;generalize ((n % 60:Nat):Int)=x2 at *;rw [Ah (fn:=Aal) (c:=Aal.body.getD .skip) rfl rfl P8 rfl Sf (Aa3 rfl)];rw [<- An];rw [<- AL] at o1 o2;simp only [Ab,Ac,Aal,Aa2];simp only [S8,Ag,SG,seval,UT,SC,Az,Dr,mo,o1,o2,q1,q2,w1,w2,c1,c2];exact ⟨_,rfl⟩
theorem Sg (n:Int) (h:0<=n/\n < 1440) (bx):Ai CC (Ad CC) 122 [.int .i64 n] bx=some (.ret (.str (FL n.toNat)),bx):=by
 obtain ⟨b,hc⟩:=bd n.toNat (by omega);rw [show ((n.toNat:Nat):Int)=n by omega] at hc;exact Aq rfl rfl hc rfl
def E8 (d:Int) (a b:List UInt8):List UInt8:=cat (cat (cat (cat (Aab d) [46]) a) [46]) b
theorem YI (d:Int) (a b:List UInt8) (h:Dx d) (ha:a.length<=1000) (hb:b.length<=1000):∃ bx,Ad CC 121 [.int .i64 d,.str a,.str b] []=some (.ret (.str (E8 d a b)),bx):=by
 have o1:=EH d h;have hl:=Dk h;unfold E8;generalize Aab d=s at *;have c1:=Cp (a:=s) (b:=[46]) (by simp only [Aa1];omega);have c2:=Cp (a:=cat s [46]) (b:=a) (by simp only [AD,Aa1];omega);have c3:=Cp (a:=cat (cat s [46]) a) (b:=[46]) (by simp only [AD,Aa1];omega);have c4:=Cp (a:=cat (cat (cat s [46]) a) [46]) (b:=b) (by simp only [AD,Aa1];omega);obtain ⟨fa,fb,fv,mo⟩:=FNi;rw [Ah (fn:=Aam) (c:=Aam.body.getD .skip) rfl rfl Oy rfl P9 (Aa3 rfl)];rw [<- An];rw [<- AL] at o1;simp only [Ab,Ac,Aam,Aa2];simp only [S8,Ag,SG,seval,UT,SC,Az,Dr,mo,o1,c1,c2,c3,c4];exact ⟨_,rfl⟩
theorem IG (d:Int) (a b:List UInt8) (h:Dx d) (ha:a.length<=1000) (hb:b.length<=1000) (bx):Ai CC (Ad CC) 121 [.int .i64 d,.str a,.str b] bx=some (.ret (.str (E8 d a b)),bx):=by
 obtain ⟨c,hc⟩:=YI d a b h ha hb;exact Aq rfl rfl hc rfl
theorem Oz:Be CC Aah (Aah.body.getD .skip)=true:=by kernel_rfl
theorem No:CC.P.funcs[68]?=some Aah:=by kernel_rfl
theorem OA:Be CC Aad (Aad.body.getD .skip)=true:=by kernel_rfl
theorem Np:CC.P.funcs[74]?=some Aad:=by kernel_rfl
def gg (v:Vl):Int:=if v.1=2/\v.2.1 < 0 then 7 else 8
theorem WJ (v:Vl) (hn:Dx v.2.1) (hc:JL v=0) (h0:v.1≠0):∃ bx,Ad CC 68 [Q' v] []=some (.ret (.tup [.str (ZB v),.int .i64 (gg v)]),bx):=by
 have o1:=Sd v hn;have o2:=EH v.2.1 hn
 have e2:v.1=2->ZB v=Aab v.2.1:=fun h=>by
  unfold ZB;rw [if_neg (by omega),if_neg (by omega),if_neg (by omega),if_pos h]
 unfold gg;obtain ⟨k,n,s⟩:=v;unfold Q' at o1 |-;simp only at o1 o2 e2 |-;generalize ZB (k,n,s)=pv at *;generalize Aab n=d at *;clear hc h0;rw [Ah (fn:=Aah) (c:=Aah.body.getD .skip) rfl rfl No rfl Oz (Aa3 rfl)];by_cases k2:k=2
 · have e:=e2 k2
   subst k2;by_cases mE:n < 0
   · rw [if_pos ⟨rfl,mE⟩,e]
     rw [<- An];rw [<- AL] at o1 o2;simp only [Ab,Ac,Aah,Aa2];simp only [S8,Ag,SG,seval,UT,SC,o1,o2,mE];exact ⟨_,rfl⟩
   · rw [if_neg (by omega)]
     rw [<- An];rw [<- AL] at o1 o2;simp only [Ab,Ac,Aah,Aa2];simp only [S8,Ag,SG,seval,UT,SC,o1,o2,mE];exact ⟨_,rfl⟩
 · have p2:(k == 2)=false:=by simpa using k2
   rw [if_neg (by omega)];rw [<- An];rw [<- AL] at o1 o2;simp only [Ab,Ac,Aah,Aa2];simp only [S8,Ag,SG,seval,UT,SC,o1,o2,p2];exact ⟨_,rfl⟩
theorem bf (v:Vl) (hn:Dx v.2.1) (hc:JL v=0) (h0:v.1≠0) (bx):Ai CC (Ad CC) 68 [Q' v] bx=some (.ret (.tup [.str (ZB v),.int .i64 (gg v)]),bx):=by
 obtain ⟨c,h⟩:=WJ v hn hc h0;exact Aq rfl rfl h rfl
def kj:Nat->List UInt8
 | 0=>[104,111,109,101]
 | 1=>[104,111,109,101,32,103,117,101,115,116]
 | 2=>[104,111,109,101,32,99,104,105,108,100]
 | 3=>[104,111,109,101,32,97,100,117,108,116]
 | 4=>[104,111,109,101,32,111,119,110,101,114]
 | _=>[]
def KV (k n m:Int) (nm:List UInt8) (key:Ky):List UInt8:=if k=2 then E8 key.1 key.2.1 key.2.2 else if k=3 then cat [109,111,100,101,32,105,115,32] nm else
 if k=4 then cat (cat (cat [116,105,109,101,32] (FL n.toNat)) [32,116,111,32]) (FL m.toNat) else if k=5 then P7 n.toNat else kj n.toNat
theorem zy:A9 CC 131 [(0,.str [104,111,109,101]),(1,.str [104,111,109,101,32,103,117,101,115,116]),(2,.str [104,111,109,101,32,99,104,105,108,100]),(3,.str [104,111,109,101,32,97,100,117,108,116]),(4,.str [104,111,109,101,32,111,119,110,101,114])]=some (.agg [.str [104,111,109,101],.str [104,111,109,101,32,103,117,101,115,116],.str [104,111,109,101,32,99,104,105,108,100],.str [104,111,109,101,32,97,100,117,108,116],.str [104,111,109,101,32,111,119,110,101,114]]) :=by kernel_rfl
theorem zA:DA CC 131 (.agg [.str [104,111,109,101],.str [104,111,109,101,32,103,117,101,115,116],.str [104,111,109,101,32,99,104,105,108,100],.str [104,111,109,101,32,97,100,117,108,116],.str [104,111,109,101,32,111,119,110,101,114]]) (.int .i64 0)=some (.str [104,111,109,101]):=by kernel_rfl
theorem zB:DA CC 131 (.agg [.str [104,111,109,101],.str [104,111,109,101,32,103,117,101,115,116],.str [104,111,109,101,32,99,104,105,108,100],.str [104,111,109,101,32,97,100,117,108,116],.str [104,111,109,101,32,111,119,110,101,114]]) (.int .i64 1)=some (.str [104,111,109,101,32,103,117,101,115,116]):=by kernel_rfl
theorem zC:DA CC 131 (.agg [.str [104,111,109,101],.str [104,111,109,101,32,103,117,101,115,116],.str [104,111,109,101,32,99,104,105,108,100],.str [104,111,109,101,32,97,100,117,108,116],.str [104,111,109,101,32,111,119,110,101,114]]) (.int .i64 2)=some (.str [104,111,109,101,32,99,104,105,108,100]):=by kernel_rfl
theorem zD:DA CC 131 (.agg [.str [104,111,109,101],.str [104,111,109,101,32,103,117,101,115,116],.str [104,111,109,101,32,99,104,105,108,100],.str [104,111,109,101,32,97,100,117,108,116],.str [104,111,109,101,32,111,119,110,101,114]]) (.int .i64 3)=some (.str [104,111,109,101,32,97,100,117,108,116]):=by kernel_rfl
theorem zE:DA CC 131 (.agg [.str [104,111,109,101],.str [104,111,109,101,32,103,117,101,115,116],.str [104,111,109,101,32,99,104,105,108,100],.str [104,111,109,101,32,97,100,117,108,116],.str [104,111,109,101,32,111,119,110,101,114]]) (.int .i64 4)=some (.str [104,111,109,101,32,111,119,110,101,114]):=by kernel_rfl
theorem WK (k n m:Int) (nm:List UInt8) (v:Vl) (key:Ky) (kids:List Tr) (hk:k=2\/k=3\/k=4\/k=5\/k=15) (hr:E' k n m key.1=true) (hd:Dx key.1) (l1:nm.length<=100) (l2:key.2.1.length<=100) (l3:key.2.2.length<=100) :
 ∃ bx,Ad CC 74 [BE (.mk k n m nm v key kids)] []=some (.ret (.str (KV k n m nm key)),bx):=by
 unfold KV;unfold BE;unfold E' at hr;generalize A8 kids=xs;obtain ⟨d,c,a⟩:=key;simp only at hr hd l2 l3 |-;rw [Ah (fn:=Aad) (c:=Aad.body.getD .skip) rfl rfl Np rfl OA (Aa3 rfl)];rcases hk with rfl | rfl | rfl | rfl | rfl
 · rw [if_pos rfl]
   have o1:=IG d c a hd (by omega) (by omega);rw [<- An];rw [<- AL] at o1;simp only [Ab,Ac,Aad,Aa2];simp only [S8,Ag,SG,seval,UT,SC,o1];exact ⟨_,rfl⟩
 · rw [if_neg (by omega),if_pos rfl]
   have c1:=Cp (a:=[109,111,100,101,32,105,115,32]) (b:=nm) (by simp only [Aa8,Aae];omega);rw [<- An];skip;simp only [Ab,Ac,Aad,Aa2];simp only [S8,Ag,SG,seval,UT,SC,c1];exact ⟨_,rfl⟩
 · rw [if_pos rfl] at hr
   have hr:=of_decide_eq_true hr;rw [if_neg (by omega),if_neg (by omega),if_pos rfl];have o1:=Sg n (by omega);have o2:=Sg m (by omega);have e1:(FL n.toNat).length=5:=rfl;have e2:(FL m.toNat).length=5:=rfl;generalize FL n.toNat=s1 at *;generalize FL m.toNat=s2 at *;have c1:=Cp (a:=[116,105,109,101,32]) (b:=s1) (by simp only [Aa8,Aae];omega);have c2:=Cp (a:=cat [116,105,109,101,32] s1) (b:=[32,116,111,32]) (by simp only [AD,Aa8,Aae];omega);have c3:=Cp (a:=cat (cat [116,105,109,101,32] s1) [32,116,111,32]) (b:=s2) (by simp only [AD,Aa8,Aae];omega);rw [<- An];rw [<- AL] at o1 o2;simp only [Ab,Ac,Aad,Aa2];simp only [S8,Ag,SG,seval,UT,SC,o1,o2,c1,c2,c3];exact ⟨_,rfl⟩
 · rw [if_neg (by omega),if_pos rfl] at hr
   have hr:=of_decide_eq_true hr;rw [if_neg (by omega),if_neg (by omega),if_neg (by omega),if_pos rfl];have o1:=dq n (by omega);rw [<- An];rw [<- AL] at o1;simp only [Ab,Ac,Aad,Aa2];simp only [S8,Ag,SG,seval,UT,SC,o1];exact ⟨_,rfl⟩
 · rw [if_neg (by omega),if_neg (by omega),if_pos rfl] at hr
   have hr:=of_decide_eq_true hr;rw [if_neg (by omega),if_neg (by omega),if_neg (by omega),if_neg (by omega)];have:n=0\/n=1\/n=2\/n=3\/n=4:=by omega
   rcases this with rfl | rfl | rfl | rfl | rfl
   all_goals
    rw [<- An];skip;simp only [Ab,Ac,Aad,Aa2];simp only [S8,Ag,SG,seval,UT,SC,zy,zA,zB,zC,zD,zE];exact ⟨_,rfl⟩
theorem Hh (k n m:Int) (nm:List UInt8) (v:Vl) (key:Ky) (kids:List Tr) (hk:k=2\/k=3\/k=4\/k=5\/k=15) (hr:E' k n m key.1=true) (hd:Dx key.1) (l1:nm.length<=100) (l2:key.2.1.length<=100) (l3:key.2.2.length<=100) (bx) :
 Ai CC (Ad CC) 74 [BE (.mk k n m nm v key kids)] bx=some (.ret (.str (KV k n m nm key)),bx):=by
 obtain ⟨c,h⟩:=WK k n m nm v key kids hk hr hd l1 l2 l3;exact Aq rfl (by simp only [AO,BH,Bu,Aaa]) h rfl
inductive At where
 | mk (s:List UInt8) (lv:Int) (kids:List At)
def At.s:At->List UInt8
 | .mk s _ _=>s
def At.lv:At->Int
 | .mk _ l _=>l
def At.ks:At->List At
 | .mk _ _ k=>k
def dAt:At:=.mk [] 8 []
def LR (l:List At) (i:Nat):At:=l[i]?.getD dAt
def EN (a:At) (least:Int):List UInt8:=if a.lv < least then cat (cat [40] a.s) [41] else a.s
def Nq (a:At) (l1:Int) (op:List UInt8) (c:At) (l2:Int):List UInt8:=cat (cat (cat (cat (EN a l1) [32]) op) [32]) (EN c l2)
def Hi (op:List UInt8) (least:Int):List At->Nat->List UInt8->List UInt8
 | [],_,acc=>acc
 | a :: r,i,acc=>Hi op least r (i+1) (cat (if 0 < i then cat acc (cat (cat [32] op) [32]) else acc) (EN a least))
def J4:Tr->Int
 | .mk k _ _ _ _ _ _=>k
def EO:Tr->List Tr
 | .mk _ _ _ _ _ _ kids=>kids
def Vk (k:Int) (a:At):List UInt8:=if k=9 then Nq (LR a.ks 0) 5 [33,61] (LR a.ks 1) 5 else if k=10 then Nq (LR a.ks 1) 5 [60,61] (LR a.ks 0) 5 else cat [110,111,116,32] (EN a 3)
def ko (k:Int):Int:=if k=9 then 4 else if k=10 then 4 else 3
def gh:List Tr->Bool
 | a :: c :: _=>aS a 1 0 0 [] (2,0,[]) (0,[],[]) && (J4 c != 1)
 | _=>false
def kd0:List Tr->Int
 | a :: _=>J4 a
 | _=>0
def Le (k n m:Int) (nm:List UInt8) (v:Vl) (key:Ky) (kids:List Tr) (l:List At):List UInt8:=
 if k=1 then ZB v else if k=14 then cat (cat (cat (cat (cat [105,102,32] (EN (LR l 0) 0)) [32,116,104,101,110,32]) (EN (LR l 1) 0)) [32,101,108,115,101,32]) (EN (LR l 2) 0) else
 if k=8 then Hi [111,114] 2 l 0 [] else if k=7 then Hi [97,110,100] 3 l 0 [] else if k=6 then Vk (kd0 kids) (LR l 0) else
 if k=9 then Nq (LR l 0) 5 [61,61] (LR l 1) 5 else if k=10 then Nq (LR l 0) 5 [60] (LR l 1) 5 else if k=11 then Nq (LR l 0) 5 [43] (LR l 1) 6 else
 if k=12 then (if gh kids then cat [45] (EN (LR l 1) 7) else Nq (LR l 0) 5 [45] (LR l 1) 6) else if k=13 then Nq (LR l 0) 6 [42] (LR l 1) 7 else KV k n m nm key
def WL (k:Int) (v:Vl) (kids:List Tr):Int:=
 if k=1 then gg v else if k=14 then 0 else if k=8 then 1 else if k=7 then 2 else if k=6 then ko (kd0 kids) else if k=9 then 4 else if k=10 then 4 else if k=11 then 5 else
 if k=12 then (if gh kids then 7 else 5) else if k=13 then 6 else 8
mutual
def an:Tr->At
 | .mk k n m nm v key kids=>.mk (Le k n m nm v key kids (HL kids)) (WL k v kids) (HL kids)
def HL:List Tr->List At
 | []=>[]
 | t :: r=>an t :: HL r
end
def TX (t:Tr):List UInt8:=(an t).s
def LV (t:Tr):Int:=(an t).lv
theorem Nr:∀ l:List Tr,HL l=l.map an
 | []=>by unfold HL;rfl
 | t :: r=>by unfold HL;rw [Nr r];rfl
theorem YJ (k n m:Int) (nm:List UInt8) (v:Vl) (key:Ky) (kids:List Tr):an (.mk k n m nm v key kids)=.mk (Le k n m nm v key kids (HL kids)) (WL k v kids) (HL kids):=by
 conv=>lhs;unfold an
theorem Vm (t:Tr):(an t).ks=HL (EO t):=by
 obtain ⟨k,n,m,nm,v,key,kids⟩:=t;rw [YJ];rfl
mutual
def vT:Tr->Prop
 | .mk k n m nm v key kids=>S6 (.mk k n m nm v key kids)=0/\YK kids
def YK:List Tr->Prop
 | []=>True
 | t :: r=>vT t/\YK r
end
theorem dt:∀ l:List Tr,YK l↔∀ t ∈ l,vT t
 | []=>by unfold YK;simp
 | t :: r=>by unfold YK;rw [dt r];simp
mutual
theorem wK (t:Tr) (lv c:Int) (h:(U4 t lv c).2=0):vT t:=by
 match t with
 | .mk k n m nm v key kids=>
  unfold U4 at h;unfold vT;split at h
  · simp at h
  · split at h
    · simp at h
    · split at h
      · rename_i hn;exact absurd h hn
      · rename_i hn
        exact ⟨by omega,qH kids _ _ h⟩
theorem qH (l:List Tr) (lv c:Int) (h:(L4 l lv c).2=0):YK l:=by
 match l with
 | []=>unfold YK;trivial
 | t :: r=>
  unfold L4 at h;unfold YK;split at h
  · rename_i hn;exact absurd h hn
  · rename_i hn
    exact ⟨wK t lv c (by omega),qH r _ _ h⟩
end
theorem sj {t:Tr} (h:Km t=0):vT t:=wK t 1 0 h
mutual
def bg:Tr->Nat
 | .mk _ _ _ _ _ _ kids=>1+Jn kids
def Jn:List Tr->Nat
 | []=>0
 | t :: r=>bg t+Jn r
end
mutual
theorem qI (t:Tr) (left levels:Int) (h:0<=Xq t left levels):(bg t:Int)+Xq t left levels<=left:=by
 match t with
 | .mk k n m nm v key kids=>
  unfold Xq at h |-;unfold bg;split at h
  · omega
  · rename_i hc
    rw [if_neg hc];have:=kp kids (left - 1) _ h;omega
theorem kp (l:List Tr) (left levels:Int) (h:0<=Pv l left levels):(Jn l:Int)+Pv l left levels<=left:=by
 match l with
 | []=>unfold Pv Jn;omega
 | t :: r=>
  unfold Pv at h |-;unfold Jn;split at h
  · omega
  · rename_i hc
    rw [if_neg hc];have h1:=qI t left levels (by omega);have h2:=kp r _ levels h;omega
end
theorem sn {t:Tr} (h:0<=Xq t 220 30):bg t<=220:=by have:=qI t 220 30 h;omega
theorem WM:Be CC Aak (Aak.body.getD .skip)=true:=by kernel_rfl
theorem Ug:CC.P.funcs[69]?=some Aak:=by kernel_rfl
theorem Uh:Be CC Aaq (Aaq.body.getD .skip)=true:=by kernel_rfl
theorem Sh:CC.P.funcs[72]?=some Aaq:=by kernel_rfl
theorem WN:Be CC Aa9 (Aa9.body.getD .skip)=true:=by kernel_rfl
theorem Ui:CC.P.funcs[70]?=some Aa9:=by kernel_rfl
theorem Si:Be CC Aaj (Aaj.body.getD .skip)=true:=by kernel_rfl
theorem Qa:CC.P.funcs[73]?=some Aaj:=by kernel_rfl
theorem OB:Be CC Aac (Aac.body.getD .skip)=true:=by kernel_rfl
theorem Ns:CC.P.funcs[71]?=some Aac:=by kernel_rfl
theorem Ey {x:List PV} {b:List PBox} (h:x.length.ble Aac.ntmps=true):Ad CC 71 x b=CM CC Aac.results.toList (Co CC (Aac.body.getD .skip) ⟨x,b⟩):=Ah (fn:=Aac) (c:=Aac.body.getD .skip) rfl rfl Ns rfl OB (Aa3 h)
theorem Uj:Be CC Aa5 (Aa5.body.getD .skip)=true:=by kernel_rfl
theorem Sj:CC.P.funcs[37]?=some Aa5:=by kernel_rfl
theorem Ba {x:List PV} {b:List PBox} (h:x.length.ble Aa5.ntmps=true):Ad CC 37 x b=CM CC Aa5.results.toList (Co CC (Aa5.body.getD .skip) ⟨x,b⟩):=Ah (fn:=Aa5) (c:=Aa5.body.getD .skip) rfl rfl Sj rfl Uj (Aa3 h)
def Nt (t:Tr):Prop:=∀ bx,Ai CC (Ad CC) 37 [BE t] bx=some (.ret (.tup [.str (TX t),.int .i64 (LV t)]),bx)
theorem Dl (a:At) (least:Int):(EN a least).length<=a.s.length+2:=by
 unfold EN;split <;> (try simp only [AD,Aa1]) <;> omega
theorem kq (t:Tr) (h:Nt t) (hl:(TX t).length<=200000) (least:Int):∃ bx,Ad CC 69 [BE t,.int .i64 least] []=some (.ret (.str (EN (an t) least)),bx):=by
 unfold Nt at h;have e1:TX t=(an t).s:=rfl;have e2:LV t=(an t).lv:=rfl;rw [e1] at hl;rw [e1,e2] at h;unfold EN;generalize (an t).s=s at *;generalize (an t).lv=lv at *;have c1:=Cp (a:=[40]) (b:=s) (by simp only [Aa1];omega);have c2:=Cp (a:=cat [40] s) (b:=[41]) (by simp only [AD,Aa1];omega);obtain ⟨k,n,m,nm,v,key,kids⟩:=t;unfold BE at h |-;generalize A8 kids=xs at *;rw [Ah (fn:=Aak) (c:=Aak.body.getD .skip) rfl rfl Ug rfl WM (Aa3 rfl)];by_cases c:lv < least
 · rw [if_pos c]
   rw [<- An];rw [<- AL] at h;simp only [Ab,Ac,Aak,Aa2];simp only [S8,Ag,SG,seval,UT,SC,h,c1,c2,c];exact ⟨_,rfl⟩
 · rw [if_neg c]
   rw [<- An];rw [<- AL] at h;simp only [Ab,Ac,Aak,Aa2];simp only [S8,Ag,SG,seval,UT,SC,h,c1,c2,c];exact ⟨_,rfl⟩
theorem H9 (t:Tr) (h:Nt t) (hl:(TX t).length<=200000) (least:Int) (bx):Ai CC (Ad CC) 69 [BE t,.int .i64 least] bx=some (.ret (.str (EN (an t) least)),bx):=by
 obtain ⟨c,hc⟩:=kq t h hl least;exact Aq rfl (by simp only [AO,BH,Bu,MG,Aaa]) hc rfl
theorem gi (t u:Tr) (h:Nt t) (h':Nt u) (hl:(TX t).length<=200000) (D4:(TX u).length<=200000) (l1 l2:Int) (op:List UInt8) (ho:op.length<=10) :
 ∃ bx,Ad CC 72 [BE t,.int .i64 l1,.str op,BE u,.int .i64 l2] []=some (.ret (.str (Nq (an t) l1 op (an u) l2)),bx):=by
 have o1:=H9 t h hl l1;have o2:=H9 u h' D4 l2;have k1:=Dl (an t) l1;have k2:=Dl (an u) l2;have e1:TX t=(an t).s:=rfl;have e2:TX u=(an u).s:=rfl;rw [e1] at hl;rw [e2] at D4;unfold Nq;generalize EN (an t) l1=s1 at *;generalize EN (an u) l2=s2 at *;have c1:=Cp (a:=s1) (b:=[32]) (by simp only [Aa1];omega);have c2:=Cp (a:=cat s1 [32]) (b:=op) (by simp only [AD,Aa1];omega);have c3:=Cp (a:=cat (cat s1 [32]) op) (b:=[32]) (by simp only [AD,Aa1];omega);have c4:=Cp (a:=cat (cat (cat s1 [32]) op) [32]) (b:=s2) (by simp only [AD,Aa1];omega);have q1:=AY (EO t);have q2:=AY (EO u);clear e1 e2 h h' hl D4 k1 k2;obtain ⟨k,n,m,nm,v,key,kids⟩:=t;obtain ⟨k',n',m',nm',v',key',kids'⟩:=u;unfold BE at o1 o2 |-;unfold EO at q1 q2;simp only at q1 q2;generalize A8 kids=xs at *;generalize A8 kids'=ys at *;rw [Ah (fn:=Aaq) (c:=Aaq.body.getD .skip) rfl rfl Sh rfl Uh (Aa3 rfl)];rw [<- An];rw [<- AL] at o1 o2;simp only [Ab,Ac,Aaq,Aa2];simp only [S8,Ag,SG,seval,UT,SC,o1,o2,c1,c2,c3,c4,q1,q2];exact ⟨_,rfl⟩
theorem Jo (t u:Tr) (h:Nt t) (h':Nt u) (hl:(TX t).length<=200000) (D4:(TX u).length<=200000) (l1 l2:Int) (op:List UInt8) (ho:op.length<=10) (bx) :
 Ai CC (Ad CC) 72 [BE t,.int .i64 l1,.str op,BE u,.int .i64 l2] bx=some (.ret (.str (Nq (an t) l1 op (an u) l2)),bx):=by
 obtain ⟨c,hc⟩:=gi t u h h' hl D4 l1 l2 op ho;exact Aq rfl (by simp only [AO,BH,Bu,MG,Q5,Aaa]) hc rfl
theorem Ph {α:Type} (a:List α) (x y:α):(a++[x]).set a.length y=a++[y]:=by simp
def sq (bx:List PBox) (v:List UInt8) (res:Option (Ex×St)):Prop:=∃ e' ex,res=some (.exit 0,⟨e',bx++ex⟩)/\getT e' 7=.str v
theorem sq.app {bx:List PBox} {x:PBox} {v:List UInt8} {res:Option (Ex×St)} (h:sq (bx++[x]) v res):sq bx v res:=by
 obtain ⟨e',ex,h⟩:=h;refine ⟨e',[x]++ex,?_⟩;rw [<- List.append_assoc];exact h
theorem kr (L:Code) (hL:L=Ab Aa9 [1,1,0,1,0]) (l:List Tr) (hl:l.length<=1000) (op:List UInt8) (ho:op.length<=10) (least:Int) (hk:∀ t ∈ l,Nt t/\(TX t).length<=200000):∀ (k i:Nat) (acc:List UInt8) (e:List PV) (bx:List PBox),i+k=l.length->acc.length<=i * 200100 ->
 getT e 10=.sl (A8 l)->getT e 11=.int .i64 l.length->getT e 12=.int .i64 i->getT e 7=.str acc->getT e 1=.str op->getT e 2=.int .i64 least->sq bx (Hi op least (HL (l.drop i)) i acc) (Co CC L ⟨e,bx⟩):=by
 intro k
 induction k with
 | zero=>
  intro i acc e bx D3 uP e10 e11 e12 e7 e1 e2;rw [A3 (Ab Aa9 [1,1,0,1,0,0]) hL];have hi:¬ ((i:Int) < (l.length:Int)):=by omega
  rw [List.drop_eq_nil_of_le (by omega)];unfold HL Hi;generalize A8 l=xs at *;rw [<- An];simp only [Ab,Ac,Aa9,Aa2];simp only [S9,Ag,seval,LG,Ph,Aa0,e10,e11,e12,e7,hi];exact ⟨_,[],by rw [List.append_nil],by simp only [S7,Ag,seval,e7]⟩
 | succ k ih=>
  intro i acc e bx D3 uP e10 e11 e12 e7 e1 e2;rw [A3 (Ab Aa9 [1,1,0,1,0,0]) hL];have hi:((i:Int) < (l.length:Int)):=by omega
  have Gb:¬ ((i:Int) < 0):=by omega
  have IU:l.drop i=(l[i]'(by omega)) :: l.drop (i+1):=List.drop_eq_getElem_cons (by omega);have hx:=Rf (l:=l) (i:=i) (t:=l[i]'(by omega)) (Aat (by omega));have hlen:=Dg l;have Mt:=wrap_i64 (n:=(i:Int)+1) ⟨by omega,by omega⟩;obtain ⟨hc,Mw⟩:=hk (l[i]'(by omega)) (Aar _);have key:=fun acc e bx h=>ih (i+1) acc e bx (by omega) h;have cast1:((i+1:Nat):Int)=(i:Int)+1:=by omega
  rw [cast1] at key;rw [IU];unfold HL Hi;generalize l[i]'(by omega)=x at *;have o1:=H9 x hc Mw least;have kl:=Dl (an x) least;have e0:TX x=(an x).s:=rfl;rw [e0] at Mw;clear hc e0;generalize EN (an x) least=ks at *;have c1:=Cp (a:=[32]) (b:=op) (by simp only [Aa1];omega);have c2:=Cp (a:=cat [32] op) (b:=[32]) (by simp only [AD,Aa1];omega);have c3:=Cp (a:=acc) (b:=cat (cat [32] op) [32]) (by simp only [AD,Aa1];omega);generalize HL (l.drop (i+1))=rest at *;obtain ⟨xk,xn,xm,xnm,xv,xkey,xkids⟩:=x;unfold BE at hx o1;generalize A8 l=xs at *;generalize A8 xkids=ys at *;clear hk ih IU;by_cases z:0 < i
  · have z1:((i:Int) > 0):=by omega
    rw [if_pos z];have c4:=Cp (a:=cat acc (cat (cat [32] op) [32])) (b:=ks) (by simp only [AD,Aa1];omega);have key:=fun e bx=>key (cat (cat acc (cat (cat [32] op) [32])) ks) e bx (by simp only [AD,Aa1];omega);generalize Hi op least rest (i+1) (cat (cat acc (cat (cat [32] op) [32])) ks)=res at *;apply sq.app;rw [<- An];rw [<- An] at key;rw [<- AL] at o1;simp only [Ab,Ac,Aa9,Aa2];simp only [S9,Ag,seval,LG,Ph,Aa0,e10,e11,e12,e7,e1,e2,hi,Gb,hx,hlen,Mt,o1,c1,c2,c3,c4,z1];refine key _ _ ?_ ?_ ?_ ?_ ?_ ?_
    all_goals simp only [S7,Ag,seval,e10,e11,e12,e7,e1,e2]
  · have z1:¬ ((i:Int) > 0):=by omega
    rw [if_neg z];have c4:=Cp (a:=acc) (b:=ks) (by omega);have key:=fun e bx=>key (cat acc ks) e bx (by simp only [AD];omega);generalize Hi op least rest (i+1) (cat acc ks)=res at *;apply sq.app;rw [<- An];rw [<- An] at key;rw [<- AL] at o1;simp only [Ab,Ac,Aa9,Aa2];simp only [S9,Ag,seval,LG,Ph,Aa0,e10,e11,e12,e7,e1,e2,hi,Gb,hx,hlen,Mt,o1,c4,z1];refine key _ _ ?_ ?_ ?_ ?_ ?_ ?_
    all_goals simp only [S7,Ag,seval,e10,e11,e12,e7,e1,e2]
theorem ku (l:List Tr) (hl:l.length<=1000) (op:List UInt8) (ho:op.length<=10) (least:Int) (hk:∀ t ∈ l,Nt t/\(TX t).length<=200000):∃ bx,Ad CC 70 [.sl (A8 l),.str op,.int .i64 least] []=some (.ret (.str (Hi op least (HL l) 0 [])),bx):=by
 have Af:=fun e bx=>kr _ rfl l hl op ho least hk l.length 0 [] e bx (by omega) (by simp);have hlen:=Dg l;rw [List.drop_zero] at Af;generalize Hi op least (HL l) 0 []=v at *;clear hk;rw [Ah (fn:=Aa9) (c:=Aa9.body.getD .skip) rfl rfl Ui rfl WN (Aa3 rfl)];generalize A8 l=xs at *;rw [<- An];rw [<- An] at Af;simp only [Ab,Ac,Aa9,Aa2] at Af |-;simp only [S9,Ag,seval,LG,Ph,Aa0,hlen];generalize hE:Hp (Code.loop _) _=z
 have hP:sq [] v z:=by
  rw [<- hE];refine Af _ _ ?_ ?_ ?_ ?_ ?_ ?_
  all_goals first | (simp only [S7,Ag,seval];done) | (simp only [S7,Ag,seval] <;> rfl)
 obtain ⟨e',ex,he,q⟩:=hP;subst he;simp only [S9,Ag,seval,LG,Ph,Aa0,hlen,q];exact ⟨_,rfl⟩
theorem kv (l:List Tr) (hl:l.length<=1000) (op:List UInt8) (ho:op.length<=10) (least:Int) (hk:∀ t ∈ l,Nt t/\(TX t).length<=200000) (bx):Ai CC (Ad CC) 70 [.sl (A8 l),.str op,.int .i64 least] bx=some (.ret (.str (Hi op least (HL l) 0 [])),bx):=by
 obtain ⟨c,hc⟩:=ku l hl op ho least hk;exact Aq rfl (by simp only [AO,PV.pure,AY,Bu,Aaa]) hc rfl
theorem qJ:A9 CC 24 [(0,.int .i64 2)]=some (.agg [.int .i64 2,.int .i64 0,.str []]):=by kernel_rfl
theorem qK:A9 CC 29 [(0,.int .i64 1),(4,.agg [.int .i64 2,.int .i64 0,.str []])]=some (.agg [.int .i64 1,.int .i64 0,.int .i64 0,.str [],.int .i64 2,.int .i64 0,.str [],.int .i64 0,.str [],.str [],.nils]):=by kernel_rfl
theorem bh (k n m:Int) (nm:List UInt8) (v:Vl) (key:Ky) (a c:Tr):∃ bx,Ad CC 73 [BE (.mk k n m nm v key [a,c])] []=some (.ret (.bool (gh [a,c])),bx):=by
 have o1:=Jl a 1 0 0 [] (2,0,[]) (0,[],[]);have hm:gh [a,c]=(aS a 1 0 0 [] (2,0,[]) (0,[],[]) && (J4 c != 1)):=rfl;rw [hm];clear hm;generalize aS a 1 0 0 [] (2,0,[]) (0,[],[])=q at *;unfold Yx at o1;obtain ⟨ak,an',am,anm,av,akey,akids⟩:=a;obtain ⟨ck,cn,cm,cnm,cv,ckey,ckids⟩:=c;simp only [J4,BE,A8] at o1 |-;generalize A8 akids=xs at *;generalize A8 ckids=ys at *;have mO:∀ b:Bool,(true && b)=b:=fun b=>rfl;rw [Ah (fn:=Aaj) (c:=Aaj.body.getD .skip) rfl rfl Qa rfl Si (Aa3 rfl)];cases q with
 | true=>
  rw [Bool.true_and];rw [<- An];rw [<- AL] at o1;simp only [Ab,Ac,Aaj,Aa2];simp only [S9,Ag,seval,LG,Ph,Aa0,o1,qJ,qK];exact ⟨_,rfl⟩
 | false=>
  rw [Bool.false_and];rw [<- An];rw [<- AL] at o1;simp only [Ab,Ac,Aaj,Aa2];simp only [S9,Ag,seval,LG,Ph,Aa0,o1,qJ,qK];exact ⟨_,rfl⟩
theorem kA (k n m:Int) (nm:List UInt8) (v:Vl) (key:Ky) (a c:Tr) (bx):Ai CC (Ad CC) 73 [BE (.mk k n m nm v key [a,c])] bx=some (.ret (.bool (gh [a,c])),bx):=by
 obtain ⟨b,hc⟩:=bh k n m nm v key a c;exact Aq rfl (by simp only [AO,BH,Bu,Aaa]) hc rfl
def zF (t:Tr):Prop:=∀ bx,Ai CC (Ad CC) 71 [BE t] bx=some (.ret (.tup [.str (Vk (J4 t) (an t)),.int .i64 (ko (J4 t))]),bx)
theorem sr {l:List Tr} (h:l.length=2):∃ a c,l=[a,c]:=by
 match l,h with
 | [a,c],_=>exact ⟨a,c,rfl⟩
theorem ss {l:List Tr} (h:l.length=1):∃ a,l=[a]:=by
 match l,h with
 | [a],_=>exact ⟨a,rfl⟩
theorem kB {l:List Tr} (h:l.length=3):∃ a c d,l=[a,c,d]:=by
 match l,h with
 | [a,c,d],_=>exact ⟨a,c,d,rfl⟩
theorem Fz {k:Int} {l:List Tr} (hk:9<=k/\k<=13) (h:Ek k l.length=true):∃ a c,l=[a,c]:=by
 unfold Ek at h;rw [if_neg (by omega),if_neg (by omega),if_pos hk] at h;exact sr (by have:=eq_of_beq h;omega)
theorem kC {l:List Tr} (h:Ek 6 l.length=true):∃ a,l=[a]:=by
 unfold Ek at h;rw [if_pos rfl] at h;exact ss (by have:=eq_of_beq h;omega)
theorem YL {l:List Tr} (h:Ek 14 l.length=true):∃ a c d,l=[a,c,d]:=by
 unfold Ek at h;rw [if_neg (by omega),if_neg (by omega),if_neg (by omega),if_pos rfl] at h;exact kB (by have:=eq_of_beq h;omega)
theorem WO (k n m:Int) (nm:List UInt8) (v:Vl) (key:Ky) (kids:List Tr) (hv:Ek k kids.length=true) (ht:Nt (.mk k n m nm v key kids)) (Xl:(TX (.mk k n m nm v key kids)).length<=200000) (hk:∀ t ∈ kids,Nt t/\(TX t).length<=200000) :
 ∃ bx,Ad CC 71 [BE (.mk k n m nm v key kids)] []=some (.ret (.tup [.str (Vk k (an (.mk k n m nm v key kids))),.int .i64 (ko k)]),bx):=by
 by_cases k9:k=9
 · subst k9
   obtain ⟨a,c,rfl⟩:=Fz (k:=9) (by omega) hv;have o1:=Jo a c (hk a (by simp)).1 (hk c (by simp)).1 (hk a (by simp)).2 (hk c (by simp)).2 5 5 [33,61] (by decide)
   have e1:Vk 9 (an (.mk 9 n m nm v key [a,c]))=Nq (an a) 5 [33,61] (an c) 5:=by
    unfold Vk;rw [if_pos rfl,Vm];rfl
   have e2:ko 9=4:=rfl;rw [e1,e2];clear e1 e2 hk ht Xl;generalize Nq (an a) 5 [33,61] (an c) 5=s at *;obtain ⟨ak,an',am,anm,av,akey,akids⟩:=a;obtain ⟨ck,cn,cm,cnm,cv,ckey,ckids⟩:=c;simp only [BE,A8] at o1 |-;have q1:=AY akids;have q2:=AY ckids;generalize A8 akids=xs at *;generalize A8 ckids=ys at *;rw [Ey rfl];rw [<- An];rw [<- AL] at o1;simp only [Ab,Ac,Aac,Aa2];simp only [S9,Ag,seval,LG,Ph,Aa0,o1,q1,q2];exact ⟨_,rfl⟩
 by_cases k10:k=10
 · subst k10
   obtain ⟨a,c,rfl⟩:=Fz (k:=10) (by omega) hv;have o1:=Jo c a (hk c (by simp)).1 (hk a (by simp)).1 (hk c (by simp)).2 (hk a (by simp)).2 5 5 [60,61] (by decide)
   have e1:Vk 10 (an (.mk 10 n m nm v key [a,c]))=Nq (an c) 5 [60,61] (an a) 5:=by
    unfold Vk;rw [if_neg (by omega),if_pos rfl,Vm];rfl
   have e2:ko 10=4:=rfl;rw [e1,e2];clear e1 e2 hk ht Xl;generalize Nq (an c) 5 [60,61] (an a) 5=s at *;obtain ⟨ak,an',am,anm,av,akey,akids⟩:=a;obtain ⟨ck,cn,cm,cnm,cv,ckey,ckids⟩:=c;simp only [BE,A8] at o1 |-;have q1:=AY akids;have q2:=AY ckids;generalize A8 akids=xs at *;generalize A8 ckids=ys at *;rw [Ey rfl];rw [<- An];rw [<- AL] at o1;simp only [Ab,Ac,Aac,Aa2];simp only [S9,Ag,seval,LG,Ph,Aa0,o1,q1,q2];exact ⟨_,rfl⟩
 have p9:(k == 9)=false:=by simpa using k9
 have p10:(k == 10)=false:=by simpa using k10
 have o1:=H9 _ ht Xl 3;have kl:=Dl (an (.mk k n m nm v key kids)) 3;have e0:TX (.mk k n m nm v key kids)=(an (.mk k n m nm v key kids)).s:=rfl;rw [e0] at Xl;have e1:Vk k (an (.mk k n m nm v key kids))=cat [110,111,116,32] (EN (an (.mk k n m nm v key kids)) 3):=by unfold Vk;rw [if_neg k9,if_neg k10]
 have e2:ko k=3:=by unfold ko;rw [if_neg k9,if_neg k10]
 rw [e1,e2];clear e0 e1 e2 ht hk;generalize EN (an (.mk k n m nm v key kids)) 3=s at *;have c1:=Cp (a:=[110,111,116,32]) (b:=s) (by simp only [Aa8,Aae];omega);simp only [BE] at o1 |-;generalize A8 kids=xs at *;rw [Ey rfl];rw [<- An];rw [<- AL] at o1;simp only [Ab,Ac,Aac,Aa2];simp only [S9,Ag,seval,LG,Ph,Aa0,o1,c1,p9,p10];exact ⟨_,rfl⟩
theorem bj (k n m:Int) (nm:List UInt8) (v:Vl) (key:Ky) (kids:List Tr) (hv:Ek k kids.length=true) (ht:Nt (.mk k n m nm v key kids)) (Xl:(TX (.mk k n m nm v key kids)).length<=200000) (hk:∀ t ∈ kids,Nt t/\(TX t).length<=200000):zF (.mk k n m nm v key kids):=fun bx=>by
 obtain ⟨c,hc⟩:=WO k n m nm v key kids hv ht Xl hk;exact Aq rfl (by simp only [AO,BH,Bu,Aaa]) hc rfl
theorem FO (k n m:Int) (nm:List UInt8) (v:Vl) (key:Ky) (kids:List Tr):TX (.mk k n m nm v key kids)=Le k n m nm v key kids (HL kids):=by unfold TX;rw [YJ];rfl
theorem Hj (k n m:Int) (nm:List UInt8) (v:Vl) (key:Ky) (kids:List Tr):LV (.mk k n m nm v key kids)=WL k v kids:=by unfold LV;rw [YJ];rfl
theorem YM (n m:Int) (nm:List UInt8) (v:Vl) (key:Ky) (kids:List Tr) (hn:Dx v.2.1) (hc:JL v=0) (h0:v.1≠0):∃ bx,Ad CC 37 [BE (.mk 1 n m nm v key kids)] []=some (.ret (.tup [.str (TX (.mk 1 n m nm v key kids)),.int .i64 (LV (.mk 1 n m nm v key kids))]),bx):=by
 have e1:TX (.mk 1 n m nm v key kids)=ZB v:=by rw [FO];unfold Le;simp only [Aa4,if_true,if_false]
 have e2:LV (.mk 1 n m nm v key kids)=gg v:=by rw [Hj];unfold WL;simp only [Aa4,if_true,if_false]
 rw [e1,e2];have o1:=bf v hn hc h0;generalize ZB v=s at *;generalize gg v=lv at *;unfold Q' at o1;simp only [BE];generalize A8 kids=xs at *;clear e1 e2 hc h0;rw [Ba rfl];rw [<- An];rw [<- AL] at o1;simp only [Ab,Ac,Aa5,Aa2];simp only [S9,Ag,seval,LG,Ph,Aa0,o1];exact ⟨_,rfl⟩
theorem YN (n m:Int) (nm:List UInt8) (v:Vl) (key:Ky) (kids:List Tr) (hl:kids.length<=1000) (hk:∀ t ∈ kids,Nt t/\(TX t).length<=200000):∃ bx,Ad CC 37 [BE (.mk 8 n m nm v key kids)] []=some (.ret (.tup [.str (TX (.mk 8 n m nm v key kids)),.int .i64 (LV (.mk 8 n m nm v key kids))]),bx):=by
 have e1:TX (.mk 8 n m nm v key kids)=Hi [111,114] 2 (HL kids) 0 []:=by rw [FO];unfold Le;simp only [Aa4,if_true,if_false]
 have e2:LV (.mk 8 n m nm v key kids)=1:=by rw [Hj];unfold WL;simp only [Aa4,if_true,if_false]
 rw [e1,e2];have o1:=kv kids hl [111,114] (by decide) 2 hk;generalize Hi [111,114] 2 (HL kids) 0 []=s at *;simp only [BE];generalize A8 kids=xs at *;clear e1 e2 hk;rw [Ba rfl];rw [<- An];rw [<- AL] at o1;simp only [Ab,Ac,Aa5,Aa2];simp only [S9,Ag,seval,LG,Ph,Aa0,o1];exact ⟨_,rfl⟩
theorem YO (n m:Int) (nm:List UInt8) (v:Vl) (key:Ky) (kids:List Tr) (hl:kids.length<=1000) (hk:∀ t ∈ kids,Nt t/\(TX t).length<=200000):∃ bx,Ad CC 37 [BE (.mk 7 n m nm v key kids)] []=some (.ret (.tup [.str (TX (.mk 7 n m nm v key kids)),.int .i64 (LV (.mk 7 n m nm v key kids))]),bx):=by
 have e1:TX (.mk 7 n m nm v key kids)=Hi [97,110,100] 3 (HL kids) 0 []:=by rw [FO];unfold Le;simp only [Aa4,if_true,if_false]
 have e2:LV (.mk 7 n m nm v key kids)=2:=by rw [Hj];unfold WL;simp only [Aa4,if_true,if_false]
 rw [e1,e2];have o1:=kv kids hl [97,110,100] (by decide) 3 hk;generalize Hi [97,110,100] 3 (HL kids) 0 []=s at *;simp only [BE];generalize A8 kids=xs at *;clear e1 e2 hk;rw [Ba rfl];rw [<- An];rw [<- AL] at o1;simp only [Ab,Ac,Aa5,Aa2];simp only [S9,Ag,seval,LG,Ph,Aa0,o1];exact ⟨_,rfl⟩
theorem YP (n m:Int) (nm:List UInt8) (v:Vl) (key:Ky) (kids:List Tr) (hv:Ek 9 kids.length=true) (hk:∀ t ∈ kids,Nt t/\(TX t).length<=200000):∃ bx,Ad CC 37 [BE (.mk 9 n m nm v key kids)] []=some (.ret (.tup [.str (TX (.mk 9 n m nm v key kids)),.int .i64 (LV (.mk 9 n m nm v key kids))]),bx):=by
 obtain ⟨a,c,rfl⟩:=Fz (k:=9) (by omega) hv;have e1:TX (.mk 9 n m nm v key [a,c])=Nq (an a) 5 [61,61] (an c) 5:=by rw [FO];unfold Le;simp only [Aa4,if_true,if_false];try rfl
 have e2:LV (.mk 9 n m nm v key [a,c])=4:=by rw [Hj];unfold WL;simp only [Aa4,if_true,if_false];try rfl
 rw [e1,e2];have o1:=Jo a c (hk a (by simp)).1 (hk c (by simp)).1 (hk a (by simp)).2 (hk c (by simp)).2 5 5 [61,61] (by decide);clear e1 e2 hk;generalize Nq (an a) 5 [61,61] (an c) 5=s at *;obtain ⟨ak,an',am,anm,av,akey,akids⟩:=a;obtain ⟨ck,cn,cm,cnm,cv,ckey,ckids⟩:=c;simp only [BE,A8] at o1 |-;have q1:=AY akids;have q2:=AY ckids;generalize A8 akids=xs at *;generalize A8 ckids=ys at *;rw [Ba rfl];rw [<- An];rw [<- AL] at o1;simp only [Ab,Ac,Aa5,Aa2];simp only [S9,Ag,seval,LG,Ph,Aa0,o1,q1,q2];exact ⟨_,rfl⟩
theorem WQ (n m:Int) (nm:List UInt8) (v:Vl) (key:Ky) (kids:List Tr) (hv:Ek 10 kids.length=true) (hk:∀ t ∈ kids,Nt t/\(TX t).length<=200000):∃ bx,Ad CC 37 [BE (.mk 10 n m nm v key kids)] []=some (.ret (.tup [.str (TX (.mk 10 n m nm v key kids)),.int .i64 (LV (.mk 10 n m nm v key kids))]),bx):=by
 obtain ⟨a,c,rfl⟩:=Fz (k:=10) (by omega) hv;have e1:TX (.mk 10 n m nm v key [a,c])=Nq (an a) 5 [60] (an c) 5:=by rw [FO];unfold Le;simp only [Aa4,if_true,if_false];try rfl
 have e2:LV (.mk 10 n m nm v key [a,c])=4:=by rw [Hj];unfold WL;simp only [Aa4,if_true,if_false];try rfl
 rw [e1,e2];have o1:=Jo a c (hk a (by simp)).1 (hk c (by simp)).1 (hk a (by simp)).2 (hk c (by simp)).2 5 5 [60] (by decide);clear e1 e2 hk;generalize Nq (an a) 5 [60] (an c) 5=s at *;obtain ⟨ak,an',am,anm,av,akey,akids⟩:=a;obtain ⟨ck,cn,cm,cnm,cv,ckey,ckids⟩:=c;simp only [BE,A8] at o1 |-;have q1:=AY akids;have q2:=AY ckids;generalize A8 akids=xs at *;generalize A8 ckids=ys at *;rw [Ba rfl];rw [<- An];rw [<- AL] at o1;simp only [Ab,Ac,Aa5,Aa2];simp only [S9,Ag,seval,LG,Ph,Aa0,o1,q1,q2];exact ⟨_,rfl⟩
theorem WR (n m:Int) (nm:List UInt8) (v:Vl) (key:Ky) (kids:List Tr) (hv:Ek 11 kids.length=true) (hk:∀ t ∈ kids,Nt t/\(TX t).length<=200000):∃ bx,Ad CC 37 [BE (.mk 11 n m nm v key kids)] []=some (.ret (.tup [.str (TX (.mk 11 n m nm v key kids)),.int .i64 (LV (.mk 11 n m nm v key kids))]),bx):=by
 obtain ⟨a,c,rfl⟩:=Fz (k:=11) (by omega) hv;have e1:TX (.mk 11 n m nm v key [a,c])=Nq (an a) 5 [43] (an c) 6:=by rw [FO];unfold Le;simp only [Aa4,if_true,if_false];try rfl
 have e2:LV (.mk 11 n m nm v key [a,c])=5:=by rw [Hj];unfold WL;simp only [Aa4,if_true,if_false];try rfl
 rw [e1,e2];have o1:=Jo a c (hk a (by simp)).1 (hk c (by simp)).1 (hk a (by simp)).2 (hk c (by simp)).2 5 6 [43] (by decide);clear e1 e2 hk;generalize Nq (an a) 5 [43] (an c) 6=s at *;obtain ⟨ak,an',am,anm,av,akey,akids⟩:=a;obtain ⟨ck,cn,cm,cnm,cv,ckey,ckids⟩:=c;simp only [BE,A8] at o1 |-;have q1:=AY akids;have q2:=AY ckids;generalize A8 akids=xs at *;generalize A8 ckids=ys at *;rw [Ba rfl];rw [<- An];rw [<- AL] at o1;simp only [Ab,Ac,Aa5,Aa2];simp only [S9,Ag,seval,LG,Ph,Aa0,o1,q1,q2];exact ⟨_,rfl⟩
theorem WS (n m:Int) (nm:List UInt8) (v:Vl) (key:Ky) (kids:List Tr) (hv:Ek 13 kids.length=true) (hk:∀ t ∈ kids,Nt t/\(TX t).length<=200000):∃ bx,Ad CC 37 [BE (.mk 13 n m nm v key kids)] []=some (.ret (.tup [.str (TX (.mk 13 n m nm v key kids)),.int .i64 (LV (.mk 13 n m nm v key kids))]),bx):=by
 obtain ⟨a,c,rfl⟩:=Fz (k:=13) (by omega) hv;have e1:TX (.mk 13 n m nm v key [a,c])=Nq (an a) 6 [42] (an c) 7:=by rw [FO];unfold Le;simp only [Aa4,if_true,if_false];try rfl
 have e2:LV (.mk 13 n m nm v key [a,c])=6:=by rw [Hj];unfold WL;simp only [Aa4,if_true,if_false];try rfl
 rw [e1,e2];have o1:=Jo a c (hk a (by simp)).1 (hk c (by simp)).1 (hk a (by simp)).2 (hk c (by simp)).2 6 7 [42] (by decide);clear e1 e2 hk;generalize Nq (an a) 6 [42] (an c) 7=s at *;obtain ⟨ak,an',am,anm,av,akey,akids⟩:=a;obtain ⟨ck,cn,cm,cnm,cv,ckey,ckids⟩:=c;simp only [BE,A8] at o1 |-;have q1:=AY akids;have q2:=AY ckids;generalize A8 akids=xs at *;generalize A8 ckids=ys at *;rw [Ba rfl];rw [<- An];rw [<- AL] at o1;simp only [Ab,Ac,Aa5,Aa2];simp only [S9,Ag,seval,LG,Ph,Aa0,o1,q1,q2];exact ⟨_,rfl⟩
end Go.HH
