/-
  What the law needs, packed: SR SS Shelf BB HB C1 L0P.
-/
import Derived.Shelf.Strings.Builder1
import Derived.Shelf.Small.Strs
import Derived.Shelf.Strconv.Itoa0
import Derived.Shelf.Strconv.Itoa1
import Derived.Shelf.LaysM
import Derived.Shelf.Strconv.Itoa2
import Derived.Shelf.Strconv.Itoa3
import Derived.Shelf.Strings.Search1
import Derived.Test.YthjcaihemgllaaaGreatDoorProg
import Derived.Lib.LaidTab
import Derived.Test.YthjcaihemgllaaaGreatDoorRows
import Derived.ProofKit
import Derived.LaidMore
import Derived.OpenShut
import Derived.Stop.Joined
import Derived.Test.YthjcaihemgllaaaGreatDoorJ50
open Go.Proofs.Tryz renaming prog->Aa0,underlying151->Aa2,underlying9->Aa5,underlying175->Aa6,underlying153->Aa7,underlying4->Aab,f8->Aac,zeroValue9->Aae,sizeOf9->Aai,isAgg9->Aak,zeroValue153->Aam,zeroValue151->Aan,underlying5->Aaq,underlying3->Aar,zeroValue5->Aas,zeroValue4->Aat,zeroValue3->Aau,sizeOf153->Ab0,sizeOf151->Ab1,isAgg153->Ab5,isAgg151->Ab6,sizeOf5->Ab7,sizeOf4->Ab8,sizeOf3->Ab9,func166->Aba,isAgg5->Abd,isAgg4->Abe,isAgg3->Abf,underlying178->Abh,underlying170->Abi,zeroValue175->Abm,underlying70->Abn,zeroValue70->Abo,underlying0->Abp,zeroValue0->Abs,sizeOf175->Abx,sizeOf70->Abz,ntmps166->Ac0,isAgg175->Ac1,sizeOf0->Ac4,isAgg70->Ac5,func157->Ac6,func136->Ac7,func125->Ac8,isAgg0->Ace
open Go.Lib renaming pow10Tab->Aa1,cell_of_heap->Abu,TabIs->Abv,indexByte->Ac9
open List renaming getElem?_eq_getElem->Aa3,getElem?_eq_some_iff->Aa4,getElem_cons_zero->Aa9,getElem_toArray->Aad,prefix_refl->Aag,getElem_cons_succ->Aaj,mem_singleton->Aal,getElem?_map->Aao,getD_eq_getElem?_getD->Ab2,length_singleton->Abc,pairwise_append->Abg,length_append->Abk,all_eq_true->Abq,mem_append->Abt
open Option renaming map_eq_some_iff->Aa8,getD->Aap,bind_some->Abj
open Array renaming getElem?_modify->Aaa,ext->Acf
open Go.World renaming freeze->Aaf,setCell->Ab4,shape?->Aby,var?->Acd
open Bool renaming and_eq_true->Aah
open Go.Result renaming andThen->Aav
open Go.Oper renaming upon_value->Aaw
open Nat renaming le_refl->Aax,zero_add->Abb
open Go.Builtin renaming unsafeSliceData_->Aay
open Go.Proofs.Builder renaming Extra->Aaz
open Go.Shelf renaming Ren->Ab3
open Go.Value renaming int->Abl,slice->Ac3
open Go.Extern.AbiNoEscape renaming same->Abr
open Go.Proofs.Body renaming n169_ntmps->Abw
open Go.Proofs.LaysM renaming n171->Ac2
open Go.Proofs.Lays renaming n169->Aca,n137->Acb
namespace Go.HH
open Go Go.Proofs
set_option maxRecDepth 100000
set_option maxHeartbeats 4000000
set_option linter.unusedSimpArgs false
set_option linter.unusedVariables false
def qX (t:Tg):Prop:=NM t=0/\wA t/\Uk t=true
def qSp (s:Sp):Prop:=Qd s=0/\wB s/\Ul s=true
theorem Zb {n:Int} {a b:List UInt8} (h1:1<=n) (h2:n<=250) (ha:BQ a=true) (hb:BQ b=true):Um n a b=0:=by
 unfold Um YW;rw [decide_eq_true ⟨h1,h2⟩,ha,hb];rfl
theorem Jv:ED zK (0,[],[])=true:=rfl
theorem FE:N1 zK:=by unfold N1 zK Dx;exact ⟨by simp,by simp,by simp⟩
theorem bK {k:Ky} (h1:1<=k.1) (h2:k.1<=250) (ha:BQ k.2.1=true) (hb:BQ k.2.2=true):N1 k:=by
 have:=Cy ha;have:=Cy hb;unfold N1 Dx maxLen;exact ⟨by omega,by omega,by omega⟩
theorem VC {L:List Tk}:∀ (n m i a j:Nat),Hb L n m i=.ok a j->1<=a
 | 0,_,_,_,_,h=>by cases h
 | n+1,m,i,a,j,h=>by
  unfold Hb at h;obtain ⟨k,i1,r1,h⟩:=Aj h;split at h
  · exact VC n _ _ _ _ h
  · injection h with h _
    subst h;have h1:2 ^ k<=m ||| 2 ^ k:=Nat.right_le_or
    have h2:1<=2 ^ k:=Nat.one_le_two_pow;omega
theorem q1 {k:Ky} (h1:1<=k.1) (h2:k.1<=250) (ha:BQ k.2.1=true) (hb:BQ k.2.2=true):qX ⟨1,k,zK,[],0,0⟩:=by
 refine ⟨?_,⟨by unfold Dx;simp,bK h1 h2 ha hb,FE,by simp,by unfold Dx;simp,by unfold Dx;simp⟩,?_⟩
 · unfold NM
   rw [if_neg (by simp),if_neg (by simp [YX,oC,Jv]),if_pos rfl];exact Zb h1 h2 ha hb
 · have:=Cy ha
   have:=Cy hb;exact decide_eq_true ⟨by simp,by omega,by omega,by simp [zK],by simp [zK]⟩
theorem q2 {k:Ky} (h1:1<=k.1) (h2:k.1<=250) (ha:BQ k.2.1=true) (hb:BQ k.2.2=true):qX ⟨2,zK,k,[],0,0⟩:=by
 refine ⟨?_,⟨by unfold Dx;simp,FE,bK h1 h2 ha hb,by simp,by unfold Dx;simp,by unfold Dx;simp⟩,?_⟩
 · unfold NM
   rw [if_neg (by simp),if_neg (by simp [YX,oC,Jv]),if_neg (by simp),if_pos rfl];exact Zb h1 h2 ha hb
 · have:=Cy ha
   have:=Cy hb;exact decide_eq_true ⟨by simp,by simp [zK],by simp [zK],by omega,by omega⟩
theorem q3 {n m:Nat} (h1:n < 1440) (h2:1<=m) (h3:m<=127):qX ⟨3,zK,zK,[],n,m⟩:=by
 refine ⟨?_,⟨by unfold Dx;simp,FE,FE,by simp,by unfold Dx;simp only;omega,by unfold Dx;simp only;omega⟩,?_⟩
 · unfold NM
   rw [if_neg (by simp),if_neg (by simp [YX,oC,Jv]),if_neg (by simp),if_neg (by simp),if_pos rfl,if_pos (by simp only;omega)]
 · exact decide_eq_true ⟨by simp,by simp [zK],by simp [zK],by simp [zK],by simp [zK]⟩
theorem q4 {s:List UInt8} (h:s=[]\/BQ s=true):qX ⟨4,zK,zK,s,0,0⟩:=by
 have hl:s.length<=100:=by
  rcases h with rfl | h
  · simp
  · exact Cy h
 refine ⟨?_,⟨by unfold Dx;simp,FE,FE,by unfold maxLen;simp only;omega,by unfold Dx;simp,by unfold Dx;simp⟩,?_⟩
 · unfold NM
   rw [if_neg (by simp),if_neg (by simp [YX,oC,Jv]),if_neg (by simp),if_neg (by simp),if_neg (by simp),if_pos rfl,if_pos h]
 · exact decide_eq_true ⟨hl,by simp [zK],by simp [zK],by simp [zK],by simp [zK]⟩
theorem q5:qX ⟨5,zK,zK,[],0,0⟩:=by
 refine ⟨?_,⟨by unfold Dx;simp,FE,FE,by simp,by unfold Dx;simp,by unfold Dx;simp⟩,?_⟩
 · unfold NM
   rw [if_neg (by simp),if_neg (by simp [YX,oC,Jv]),if_neg (by simp),if_neg (by simp),if_neg (by simp),if_neg (by simp),if_neg (by simp)]
 · exact decide_eq_true ⟨by simp,by simp [zK],by simp [zK],by simp [zK],by simp [zK]⟩
theorem q6 {n:Nat} (h:n<=1099511627776):qX ⟨6,zK,zK,[],n,0⟩:=by
 refine ⟨?_,⟨by unfold Dx;simp,FE,FE,by simp,by unfold Dx;simp only;omega,by unfold Dx;simp⟩,?_⟩
 · unfold NM
   rw [if_neg (by simp),if_neg (by simp [YX,oC,Jv]),if_neg (by simp),if_neg (by simp),if_neg (by simp),if_neg (by simp),if_pos rfl,if_pos (by simp only;omega)]
 · exact decide_eq_true ⟨by simp,by simp [zK],by simp [zK],by simp [zK],by simp [zK]⟩
theorem bL {L:List Tk} (hT:TokOK L) {i:Nat} {a:Tg} {j:Nat} (hi:i < L.length) (h:BI L i=.ok a j):qX a:=by
 unfold BI at h;have nx:∀ {w:List UInt8},Br L 1 w i=true->i+1 < L.length:=fun hw=>AM hT hi hw (by decide);split at h
 · rename_i hw
   obtain ⟨k,i1,r1,h⟩:=Aj h;obtain ⟨_,_,v1,v2,v3,v4⟩:=C1 hT (nx hw) r1;injection h with h _
   subst h;exact q1 v3 v4 v1 v2
 split at h
 · rename_i hw
   obtain ⟨k,i1,r1,h⟩:=Aj h;obtain ⟨_,_,v1,v2,v3,v4⟩:=C1 hT (nx hw) r1;injection h with h _
   subst h;exact q2 v3 v4 v1 v2
 split at h
 · rename_i hw
   obtain ⟨n,i1,r1,h⟩:=Aj h;obtain ⟨_,g2,g3⟩:=E1 hT (nx hw) r1;split at h
   · rename_i vu
     obtain ⟨m,i2,r2,h⟩:=Aj h;have hx:=AM hT g2 vu (by decide);obtain ⟨_,_,g4⟩:=KG hT hx r2;injection h with h _
     subst h;exact q3 g3 (VC _ _ _ _ _ r2) (by omega)
   · injection h with h _
     subst h;exact q3 (m:=127) g3 (by omega) (by omega)
 split at h
 · rename_i hw
   split at h
   · obtain ⟨s,i1,r1,h⟩:=Aj h
     injection h with h _
     subst h;exact q4 (.inr (F8 r1))
   · injection h with h _
     subst h;exact q4 (.inl rfl)
 split at h
 · injection h with h _
   subst h;exact q5
 · obtain ⟨_,i1,r1,h⟩:=Aj h
   obtain ⟨n,i2,r2,h⟩:=Aj h;have hx:=(AW hT hi (by decide) r1).2;have hn:=Ft hT hx r2;injection h with h _
   subst h;exact q6 hn.2.2.2
theorem SR {L:List Tk} (hT:TokOK L) {n i:Nat} {a:Tr} {j:Nat} (h:D0 L n i=.ok a j):Km a=0/\EJ a:=by
 unfold D0 at h;obtain ⟨e,i1,r1,h⟩:=Aj h;split at h
 · rename_i hc
   injection h with h _
   subst h;exact ⟨hc,qz hT _ .expr _ _ _ _ (by trivial) r1⟩
 · cases h
theorem dV:0<=Xq zT 220 30:=by
 unfold zT Xq zV zK Pv;simp
theorem QI:Kl zT:=by
 unfold zT Kl Io nJ zV Dx;refine ⟨by simp,by simp,by simp,by simp,⟨by simp,by simp,by simp⟩,FE,by simp,trivial⟩
theorem dW:cZ zT=true:=by kernel_rfl
theorem pq {L:List Tk} (hT:TokOK L) {n i:Nat} {a:Sp} {j:Nat} (hi:i < L.length) (h:DV L n i=.ok a j):qSp a:=by
 unfold DV at h;have nx:∀ {w:List UInt8},Br L 1 w i=true->i+1 < L.length:=fun hw=>AM hT hi hw (by decide);split at h
 · rename_i hw
   obtain ⟨k,i1,r1,h⟩:=Aj h;obtain ⟨_,i2,r2,h⟩:=Aj h;obtain ⟨e,i3,r3,h⟩:=Aj h;obtain ⟨_,_,v1,v2,v3,v4⟩:=C1 hT (nx hw) r1;obtain ⟨c1,c2⟩:=SR hT r3;injection h with h _
   subst h;have:=Cy v1;have:=Cy v2;refine ⟨?_,⟨by unfold Dx;simp,bK v3 v4 v1 v2,by simp,Xb c1 c2⟩,decide_eq_true ⟨by simp,by simp only;omega,by simp only;omega,lX c1 c2⟩⟩;unfold Qd;rw [if_pos rfl,if_neg (by simp),if_neg (by rw [Zb v3 v4 v1 v2];simp)];exact c1
 split at h
 · rename_i hw
   obtain ⟨k,i1,r1,h⟩:=Aj h;obtain ⟨_,_,v1,v2,v3,v4⟩:=C1 hT (nx hw) r1;have:=Cy v1;have:=Cy v2;have EA:N1 (k.1,k.2.1,[]):=by unfold N1 Dx maxLen;simp only [List.length_nil];exact ⟨by omega,by omega,by omega⟩
   split at h
   · obtain ⟨e,i3,r3,h⟩:=Aj h
     obtain ⟨_,i4,r4,h⟩:=Aj h;obtain ⟨c1,c2⟩:=SR hT r3;injection h with h _
     subst h;refine ⟨?_,⟨by unfold Dx;simp,EA,by unfold maxLen;simp only;omega,Xb c1 c2⟩,decide_eq_true ⟨by simp only;omega,by simp only;omega,by simp,lX c1 c2⟩⟩;unfold Qd;rw [if_neg (by simp),if_pos rfl,if_neg (by simp),if_neg (by rw [Zb v3 v4 v1 v2];simp)];split
     · rfl
     · exact c1
   · injection h with h _
     subst h;refine ⟨?_,⟨by unfold Dx;simp,EA,by unfold maxLen;simp only;omega,QI⟩,decide_eq_true ⟨by simp only;omega,by simp only;omega,by simp,dV⟩⟩;unfold Qd;rw [if_neg (by simp),if_pos rfl,if_neg (by simp),if_neg (by rw [Zb v3 v4 v1 v2];simp),if_pos dW]
 split at h
 · obtain ⟨s,i1,r1,h⟩:=Aj h
   have hv:=F8 r1;have:=Cy hv;injection h with h _
   subst h;refine ⟨?_,⟨by unfold Dx;simp,FE,by unfold maxLen;simp only;omega,QI⟩,decide_eq_true ⟨by simp only;omega,by simp [zK],by simp [zK],dV⟩⟩;unfold Qd;rw [if_neg (by simp),if_neg (by simp),if_pos (by simp),if_neg (by simp [Jv,dW]),if_neg (by simp),if_pos hv]
 split at h
 · obtain ⟨s,i1,r1,h⟩:=Aj h
   have hv:=F8 r1;have:=Cy hv;injection h with h _
   subst h;refine ⟨?_,⟨by unfold Dx;simp,FE,by unfold maxLen;simp only;omega,QI⟩,decide_eq_true ⟨by simp only;omega,by simp [zK],by simp [zK],dV⟩⟩;unfold Qd;rw [if_neg (by simp),if_neg (by simp),if_pos (by simp),if_neg (by simp [Jv,dW]),if_neg (by simp),if_pos hv]
 · obtain ⟨_,i1,r1,h⟩:=Aj h
   obtain ⟨t,i2,r2,h⟩:=Aj h
   have hl:t.2.1.length<=60:=by
    unfold Oh at r2;split at r2
    · rename_i hk
      injection r2 with r2 _
      subst r2;exact hT.str _ hk
    · cases r2
   injection h with h _
   subst h;refine ⟨?_,⟨by unfold Dx;simp,FE,by unfold maxLen;simp only;omega,QI⟩,decide_eq_true ⟨by simp only;omega,by simp [zK],by simp [zK],dV⟩⟩;unfold Qd;rw [if_neg (by simp),if_neg (by simp),if_pos (by simp),if_neg (by simp [Jv,dW]),if_pos rfl,if_neg (by simp only;omega)]
theorem Mo {α:Type} {L:List Tk} (hT:TokOK L) {w:List UInt8} {part:Nat->PR α} (P:α->Prop) (hp:∀ i a j,i < L.length->part i=.ok a j->P a/\j < L.length) :
 ∀ (m:Nat) (acc:List α) (i:Nat) (l:List α) (j:Nat),i < L.length->(∀ x ∈ acc,P x)->acc.length<=8->Bw L w part m acc i=.ok l j->(∀ x ∈ l,P x)/\l.length<=8/\1<=l.length/\j < L.length
 | 0,_,_,_,_,_,_,_,h=>by cases h
 | m+1,acc,i,l,j,hi,ha,hl,h=>by
  rw [Bw] at h;split at h
  · split at h
    · cases h
    · rename_i h8
      obtain ⟨_,i1,r1,h⟩:=Aj h;obtain ⟨a,i2,r2,h⟩:=Aj h;obtain ⟨_,i3,r3,h⟩:=Aj h;have h1:=(AW hT hi (by decide) r1).2;obtain ⟨g1,g2⟩:=hp _ _ _ h1 r2;have h3:=(AW hT g2 (by decide) r3).2;refine Mo hT P hp m _ _ _ _ h3 (fun x hx=>?_) (by rw [Abk,Abc];omega) h;rcases Abt.1 hx with hx | hx
      · exact ha x hx
      · rw [Aal] at hx
        subst hx;exact g1
  · rename_i hc
    injection h with h1 h2
    subst h1 h2;exact ⟨ha,hl,by omega,hi⟩
def ub (r:Rl):Prop:=Nu r=true/\aT r/\Vo r=0
theorem SS {α:Type} (f:α->Int):∀ l:List α,(∀ x ∈ l,f x=0)->Xt f l=0
 | [],_=>rfl
 | x :: r,h=>by
  unfold Xt;rw [if_neg (by rw [h x (by simp)];simp)];exact SS f r (fun y hy=>h y (by simp [hy]))
theorem xI:Km wT=0:=by kernel_rfl
theorem py {L:List Tk} (hT:TokOK L) {n:Nat} {rs:List Rl} {i:Nat} {r:Rl} {j:Nat} (hi:i < L.length) (h:JF L n rs i=.ok r j):ub r/\(∀ x ∈ rs,x.nm≠r.nm)/\j < L.length/\rs.length≠40:=by
 have Bz:=R6 hT hi h;unfold JF at h;split at h
 · cases h
 obtain ⟨_,i0,r0,h⟩:=Aj h;have l0:=(AW hT hi (by decide) r0).2;obtain ⟨nm,i1,r1,h⟩:=Aj h;have l1:=(CI hT l0 r1).2;split at h
 · cases h
 rename_i uO;obtain ⟨pr,i2,r2,h⟩:=Aj h
 have Qo:pr<=100/\i2 < L.length:=by
  split at r2
  · rename_i hw
    have:=Ft hT (AM hT l1 hw (by decide)) r2;exact ⟨this.2.2.2,this.2.1⟩
  · injection r2 with r2 r3
    subst r3;exact ⟨by omega,l1⟩
 obtain ⟨_,i3,r3,h⟩:=Aj h;have l3:=(AW hT Qo.2 (by decide) r3).2;obtain ⟨on,i4,r4,h⟩:=Aj h;obtain ⟨a1,a2,a3,l4⟩:=Mo hT qX (fun i a j hi h=>⟨bL hT hi h,E6 hT hi h⟩) _ _ _ _ _ l3 (fun x hx=>by cases hx) (by simp) r4;obtain ⟨e,i5,r5,h⟩:=Aj h
 have he:(Km e=0/\EJ e)/\i5 < L.length:=by
  split at r5
  · rename_i hw
    obtain ⟨a,i6,r6,r5⟩:=Aj r5;obtain ⟨_,i7,r7,r5⟩:=Aj r5;have l6:=E3 hT (AM hT l4 hw (by decide)) r6;have l7:=(AW hT l6.2 (by decide) r7).2;injection r5 with r5 r8
    subst r5 r8;exact ⟨SR hT r6,l7⟩
  · injection r5 with r5 r8
    subst r5 r8;exact ⟨⟨xI,Mc 1 1⟩,l4⟩
 obtain ⟨⟨c1,c2⟩,l5⟩:=he;obtain ⟨dos,i6,r6,h⟩:=Aj h;obtain ⟨b1,b2,b3,l6⟩:=Mo hT qSp (fun i a j hi h=>⟨pq hT hi h,KO hT hi h⟩) _ _ _ _ _ l5 (fun x hx=>by cases hx) (by simp) r6;obtain ⟨_,i7,r7,h⟩:=Aj h;injection h with h _
 subst h;have hv:=F8 r1;have q':=Cy hv;refine ⟨⟨?_,?_,?_⟩,fun x hx hxn=>uO (List.any_eq_true.2 ⟨x,hx,beq_iff_eq.2 hxn⟩),Bz.1,Bz.2⟩
 · unfold Nu
   rw [Aah,Aah,Abq,Abq];exact ⟨⟨decide_eq_true ⟨by simp only;omega,by simp only;omega,by simp only;omega,lX c1 c2⟩,fun x hx=>(a1 x hx).2.2⟩,fun x hx=>(b1 x hx).2.2⟩
 · exact ⟨by unfold maxLen;simp only;omega,by unfold Dx;simp only;omega,by unfold maxLen;simp only;omega,fun t ht=>(a1 t ht).2.1,Xb c1 c2,by unfold maxLen;simp only;omega,fun s hs=>(b1 s hs).2.1⟩
 · unfold Vo
   rw [if_neg (by rw [hv];simp),if_neg (by simp only;omega),if_neg (by simp only;omega),SS NM on (fun x hx=>(a1 x hx).1),if_neg (by simp),if_neg (by rw [c1];simp)];exact SS Qd dos (fun x hx=>(b1 x hx).1)
theorem Zc {L:List Tk} (hT:TokOK L) {n:Nat}:∀ (m:Nat) (rs:List Rl) (i:Nat) (l:List Rl) (j:Nat),i < L.length->(∀ x ∈ rs,ub x)->rs.Pairwise (fun x y=>x.nm≠y.nm)->rs.length<=40->Ed L n m rs i=.ok l j->(∀ x ∈ l,ub x)/\l.Pairwise (fun x y=>x.nm≠y.nm)/\l.length<=40
 | 0,_,_,_,_,_,_,_,_,h=>by cases h
 | m+1,rs,i,l,j,hi,h1,h2,h3,h=>by
  rw [Ed] at h;split at h
  · injection h with h _
    subst h;exact ⟨h1,h2,h3⟩
  · obtain ⟨r,k,hr,h⟩:=Aj h
    obtain ⟨g1,g2,g3,g4⟩:=py hT hi hr;refine Zc hT m _ _ _ _ g3 (fun x hx=>?_) ?_ (by rw [Abk,Abc];omega) h
    · rcases Abt.1 hx with hx | hx
      · exact h1 x hx
      · rw [Aal] at hx
        subst hx;exact g1
    · rw [Abg]
      refine ⟨h2,List.pairwise_singleton _ _,fun x hx y hy=>?_⟩;rw [Aal] at hy;subst hy;exact g2 x hx
theorem l8 {s:List UInt8} (hs:s.length<=20000):(∀ x ∈ (DK s).1,ub x)/\(DK s).1.Pairwise (fun x y=>x.nm≠y.nm)/\(DK s).1.length<=40:=by
 have hn:(∀ x ∈ ([]:List Rl),ub x)/\([]:List Rl).Pairwise (fun x y=>x.nm≠y.nm)/\([]:List Rl).length<=40:=⟨fun x hx=>(by cases hx),List.Pairwise.nil,by simp⟩;unfold DK;by_cases h0:(BD s).2.2=0
 · have hT:=Mh s hs h0
   rw [if_pos h0];cases hr:Ed (BD s).1 (ZA (BD s).1) 42 [] 0 with
   | ok l j=>exact Zc hT _ _ _ _ _ hT.pos (fun x hx=>(by cases hx)) List.Pairwise.nil (by simp) hr
   | bad t c=>exact hn
   | out=>exact hn
 · rw [if_neg h0]
   exact hn
theorem qY:∀ (l pre:List Rl) (acc:List UInt8),(∀ x ∈ l,ub x)->(pre++l).Pairwise (fun x y=>x.nm≠y.nm)->(Vw pre l acc).1=0
 | [],_,_,_,_=>rfl
 | r :: l,pre,acc,h,hp=>by
  unfold Vw
  have hd:W2 pre r.nm=false:=by
   rw [Abg] at hp;unfold W2;rw [List.any_eq_false];intro x hx he;exact hp.2.2 x hx r (by simp) (beq_iff_eq.1 he)
  rw [if_pos (h r (by simp)).2.2,hd,if_neg (by simp)];exact qY l _ _ (fun x hx=>h x (by simp [hx])) (by rw [List.append_assoc];exact hp)
theorem xJ {l:List Rl} (h:∀ x ∈ l,ub x) (hp:l.Pairwise (fun x y=>x.nm≠y.nm)) (hl:l.length<=40):(Qk l).1=0\/(Qk l).1=3:=by
 unfold Qk;rw [if_neg (by omega),if_pos (qY l [] [] h hp)];split
 · exact .inl rfl
 · exact .inr rfl
theorem NG:Be CC Aac (Aac.body.getD .skip)=true:=by kernel_rfl
theorem Mp:CC.P.funcs[8]?=some Aac:=by kernel_rfl
theorem Dn {x:List PV} {b:List PBox} (h:x.length.ble Aac.ntmps=true):Ad CC 8 x b=CM CC Aac.results.toList (Co CC (Aac.body.getD .skip) ⟨x,b⟩):=Ah (fn:=Aac) (c:=Aac.body.getD .skip) rfl rfl Mp rfl NG (Nat.le_of_ble_eq_true h)
theorem SV (s:List UInt8) (_:s.length<=maxLen):∃ bx,Ad CC 8 [.str s] []=some (.ret (.bool true),bx):=by
 have oaw:=lT;by_cases hs:2000 < s.length
 · have c:(s.length:Int) > 2000:=by omega
   rw [Dn rfl];rw [<- An];rw [<- AL] at oaw;simp only [Ab,Ac,Aac,Aap];simp only [S9,Ag,seval,CX,c,oaw];exact ⟨_,rfl⟩
 have c:¬ (s.length:Int) > 2000:=by omega
 have o1:=KU s (by omega);obtain ⟨q1,q2,q3⟩:=l8 (s:=s) (by omega);rw [dS] at o1;by_cases h0:(DK s).2.2=0
 case neg=>
  have hn:((DK s).2.2 != 0)=true:=bne_iff_ne.2 h0;clear q1 q2 q3 h0;generalize (DK s).2.2=er at *;generalize (DK s).2.1=ea at *;generalize (DK s).1.map Ew=ls at *;rw [Dn rfl];rw [<- An];rw [<- AL] at oaw o1;simp only [Ab,Ac,Aac,Aap];simp only [S9,Ag,seval,CX,c,o1,hn,oaw];exact ⟨_,rfl⟩
 rw [h0] at o1;clear h0;generalize (DK s).2.1=ea at *;generalize (DK s).1=l at *;have o2:=SJ l q3 (fun x hx=>⟨(q1 x hx).1,(q1 x hx).2.1⟩);have rh:=NA l;have o3:=tY l (by omega) (fun x hx=>xH (q1 x hx).1);have he:=xJ q1 q2 q3;by_cases h2:(Qk l).1=0
 · obtain ⟨g1,g2⟩:=gG h2
   have o4:=KU (Qk l).2 g2;rw [g1,dS] at o4;rw [h2] at o2;have Ez:EB .eql (Qk l).2 (Qk l).2=some (.bool true):=by show some (PV.bool ((Qk l).2 == (Qk l).2))=_;rw [beq_self_eq_true]
   clear g1 g2 he q1 q2 q3 h2;generalize (Qk l).2=tx at *;generalize l.map Ew=ls at *;rw [Dn rfl];rw [<- An];rw [<- AL] at oaw o1 o2 o3 o4;simp only [Ab,Ac,Aac,Aap];simp only [S9,Ag,seval,CX,c,o1,o2,o3,o4,Ez,oaw];exact ⟨_,rfl⟩
 · have h3:(Qk l).1=3:=by
    rcases he with h | h
    · exact absurd h h2
    · exact h
   rw [h3] at o2;clear he q1 q2 q3 h2 h3 o3;generalize (Qk l).2=tx at *;generalize l.map Ew=ls at *;rw [Dn rfl];rw [<- An];rw [<- AL] at oaw o1 o2;simp only [Ab,Ac,Aac,Aap];simp only [S9,Ag,seval,CX,c,o1,o2,oaw];exact ⟨_,rfl⟩
end Go.HH
namespace Go.Proofs
open Go.Shelf
def Tryz.lays169_ren:Ab3:=⟨fun | 169=>157 | n=>n,fun | 70=>151 | 9=>9 | 0=>0 | 72=>153 | 37=>70 | 127=>164 | 3=>3 | 5=>5 | n=>n,fun | n=>n⟩
theorem Tryz.lays169:Aca Aa0 Tryz.lays169_ren:={
 mixed:=by kernel_rfl
 f169:=Ac6.trans (congrArg some (by kernel_rfl))
 t0:=Abp
 a0:=Ace
 z0:=Ac4
 v0:=Abs
 t3:=Aar
 a3:=Abf
 z3:=Ab9
 v3:=Aau
 t9:=Aa5
 a9:=Aak
 z9:=Aai
 v9:=Aae
 t37:=Abn
 a37:=Ac5
 z37:=Abz
 v37:=Abo
 t70:=Aa2
 a70:=Ab6
 z70:=Ab1
 v70:=Aan
 t72:=Aa7
 a72:=Ab5
 z72:=Ab0
 v72:=Aam
 t127:=Tryz.underlying164
 a127:=Tryz.isAgg164
 z127:=Tryz.sizeOf164
 v127:=Tryz.zeroValue164 }
theorem Tryz.Builder_Extra_169:Aaz Aa0 Tryz.lays169_ren:={
 sizeBuilder:=by kernel_rfl
 liesBuilder:=by kernel_rfl
 t5:=Aaq
 a5:=Abd
 z5:=Ab7
 v5:=Aas
 infoByte:=by kernel_rfl
 cellsByte:=by kernel_rfl
 sizeByte:=by kernel_rfl
 neB5:=by decide }
def Tryz.lays137_ren:Ab3:=⟨fun | 137=>136 | 217=>161 | 266=>170 | n=>n,fun | 9=>9 | 5=>5 | 3=>3 | n=>n,fun | n=>n⟩
theorem Tryz.lays137:Acb Aa0 Tryz.lays137_ren:={
 mixed:=by kernel_rfl
 f137:=Ac7.trans (congrArg some (by kernel_rfl))
 f217:=Tryz.func161.trans (congrArg some (by kernel_rfl))
 f266:=Tryz.func170.trans (congrArg some (by kernel_rfl))
 t3:=Aar
 a3:=Abf
 z3:=Ab9
 v3:=Aau
 t5:=Aaq
 a5:=Abd
 z5:=Ab7
 v5:=Aas
 t9:=Aa5
 a9:=Aak
 z9:=Aai
 v9:=Aae }
open Go.RowKit in
theorem Tryz.strings_IndexByte (s:ByteArray) (c:Int) (w:World) :
 Calls Aa0 136 #[.string s,.int .u8 c] w fun e w'=>e=.returned (.int .i64 (Ac9 s.data.toList c.toNat.toUInt8))/\w'=w:=Any.strings_IndexByte Tryz.lays137 s c w
def Tryz.laysM171_ren:Ab3:=⟨fun | 171=>125 | 243=>154 | 246=>165 | 283=>172 | 284=>173 | 285=>174 | 286=>175 | 129=>180 | 317=>179 | 318=>181 | 319=>182 | 320=>183 | 337=>185 | 338=>186 | n=>n,fun | 3=>3 | 9=>9 | 2=>2 | 4=>4 | 171=>169 | 0=>0 | 53=>170 | 37=>70 | 5=>5 | 173=>173 | 212=>178 | 51=>179 | 20=>20 | 213=>180 | 46=>133 | 232=>183 | 233=>184 | n=>n,fun | 17=>1 | 18=>2 | 19=>3 | n=>n⟩
theorem Tryz.laysM171:Ac2 Aa0 Tryz.laysM171_ren:={
 mixed:=by kernel_rfl
 f129:=Tryz.func180.trans (congrArg some (by kernel_rfl))
 f171:=Ac8.trans (congrArg some (by kernel_rfl))
 f243:=Tryz.func154.trans (congrArg some (by kernel_rfl))
 f246:=Tryz.func165.trans (congrArg some (by kernel_rfl))
 f283:=Tryz.func172.trans (congrArg some (by kernel_rfl))
 f284:=Tryz.func173.trans (congrArg some (by kernel_rfl))
 f285:=Tryz.func174.trans (congrArg some (by kernel_rfl))
 f286:=Tryz.func175.trans (congrArg some (by kernel_rfl))
 f317:=Tryz.func179.trans (congrArg some (by kernel_rfl))
 f318:=Tryz.func181.trans (congrArg some (by kernel_rfl))
 f319:=Tryz.func182.trans (congrArg some (by kernel_rfl))
 f320:=Tryz.func183.trans (congrArg some (by kernel_rfl))
 f337:=Tryz.func185.trans (congrArg some (by kernel_rfl))
 f338:=Tryz.func186.trans (congrArg some (by kernel_rfl))
 t0:=Abp
 a0:=Ace
 z0:=Ac4
 v0:=Abs
 t2:=Tryz.underlying2
 a2:=Tryz.isAgg2
 z2:=Tryz.sizeOf2
 v2:=Tryz.zeroValue2
 t3:=Aar
 a3:=Abf
 z3:=Ab9
 v3:=Aau
 t4:=Aab
 a4:=Abe
 z4:=Ab8
 v4:=Aat
 t5:=Aaq
 a5:=Abd
 z5:=Ab7
 v5:=Aas
 t9:=Aa5
 a9:=Aak
 z9:=Aai
 v9:=Aae
 t20:=Tryz.underlying20
 a20:=Tryz.isAgg20
 z20:=Tryz.sizeOf20
 v20:=Tryz.zeroValue20
 t37:=Abn
 a37:=Ac5
 z37:=Abz
 v37:=Abo
 t46:=Tryz.underlying133
 a46:=Tryz.isAgg133
 z46:=Tryz.sizeOf133
 v46:=Tryz.zeroValue133
 t51:=Tryz.underlying179
 a51:=Tryz.isAgg179
 z51:=Tryz.sizeOf179
 v51:=Tryz.zeroValue179
 t53:=Abi
 a53:=Tryz.isAgg170
 z53:=Tryz.sizeOf170
 v53:=Tryz.zeroValue170
 t171:=Tryz.underlying169
 a171:=Tryz.isAgg169
 z171:=Tryz.sizeOf169
 v171:=Tryz.zeroValue169
 t173:=Tryz.underlying173
 a173:=Tryz.isAgg173
 z173:=Tryz.sizeOf173
 v173:=Tryz.zeroValue173
 t212:=Abh
 a212:=Tryz.isAgg178
 z212:=Tryz.sizeOf178
 v212:=Tryz.zeroValue178
 t213:=Tryz.underlying180
 a213:=Tryz.isAgg180
 z213:=Tryz.sizeOf180
 t232:=Tryz.underlying183
 a232:=Tryz.isAgg183
 z232:=Tryz.sizeOf183
 v232:=Tryz.zeroValue183
 t233:=Tryz.underlying184
 a233:=Tryz.isAgg184
 z233:=Tryz.sizeOf184
 v233:=Tryz.zeroValue184
 g17:=by kernel_rfl
 g18:=by kernel_rfl
 g19:=by kernel_rfl
 i0:=by kernel_rfl
 i2:=by kernel_rfl
 i3:=by kernel_rfl
 i4:=by kernel_rfl
 i5:=by kernel_rfl
 i9:=by kernel_rfl
 i20:=by kernel_rfl
 i37:=by kernel_rfl
 i46:=by kernel_rfl
 i51:=by kernel_rfl
 i53:=by kernel_rfl
 i171:=by kernel_rfl
 i173:=by kernel_rfl
 i212:=by kernel_rfl
 i232:=by kernel_rfl
 i233:=by kernel_rfl
 m17:=by kernel_rfl
 m18:=by kernel_rfl
 m19:=by kernel_rfl }
open Go.RowKit Go.Sort Go.Lib in
theorem Tryz.strconv_Itoa (n:Int) (h0:-9223372036854775808<=n) (h1:n<=9223372036854775807) (w:World) (htab:Abv Aa0 w "internal/strconv.uint64pow10" .u64 Aa1) :
 Calls Aa0 125 #[.int .i64 n] w fun e w'=>e=.returned (.string ⟨(Lib.itoa n).toArray⟩)/\∃ k os,w'=grow (w.drewN k) os:=Any.strconv_Itoa Tryz.laysM171 n h0 h1 w htab
end Go.Proofs
namespace Go.HH
open Go Go.Proofs Go.Shelf Go.RowKit Go.Lib
variable {P:Program} {ρ:Ren}
set_option maxHeartbeats 2000000 in
set_option maxRecDepth 100000 in
theorem l9 (L:Lays.n169 P ρ) (X:Aaz P ρ) (b g cap:Nat) (p:Value) (cur:Array Value) (fr:Nat×Nat) (l:List UInt8) (w:World) (h0:l≠[]) (yI:l.length<=cap) (uk:cap<=maxLen) (JI:cur.size=cap)
 (hbk:w.heap[b]?=some (.cells #[p,.slice (some ⟨g,0,none⟩) l.length cap] (ρ.t 72) (0,0))) (hg:w.heap[g]?=some (.cells cur (ρ.t 5) fr))
 (Ho:∀ j x,l[j]?=some x->w.cell? ⟨g,j,none⟩=some (.int .u8 x.toNat)) :
 Calls P (ρ.f 169) #[.pointer (some ⟨b,0,none⟩)] w fun e w'=>e=.returned (.string ⟨l.toArray⟩)/\w'=w.drew.freeze ⟨g,0,none⟩ l.length:=by
 have Zh:l.length≠0:=by simpa using h0
 have c1:w.drew.cell? ⟨b,1,none⟩=some (.slice (some ⟨g,0,none⟩) l.length cap):=by
  have:w.drew.heap[b]?=some (.cells #[p,.slice (some ⟨g,0,none⟩) l.length cap] (ρ.t 72) (0,0)):=hbk;rw [Abu this];rfl
 have hSD:(Aay #[(ρ.t 37)] (ρ.t 127) #[.slice (some ⟨g,0,none⟩) l.length cap]).run P w.drew=.ok (.pointer (some ⟨g,0,none⟩)) w.drew:=
  Lib.run_unsafeSliceData_row _ _ _ _ _ _ (by omega)
 have hUS:(Builtin.unsafeString_ #[(ρ.t 127),(ρ.t 3)] (ρ.t 9) #[.pointer (some ⟨g,0,none⟩),.int .i64 l.length]).run P w.drew=.ok (.string ⟨l.toArray⟩) (w.drew.freeze ⟨g,0,none⟩ l.length):=by
  refine Lib.run_unsafeString_row w.drew (ρ.t 127) (ρ.t 3) (ρ.t 9) (ρ.t 5) L.t127 X.cellsByte g cur.size (by have D5:w.drew.heap[g]?=some (.cells cur (ρ.t 5) fr):=hg;simp [Aby,D5]) l h0 (by omega) (by unfold maxLen at uk;omega) ?_;intro j x hx;have:=Ho j x hx;rw [show (⟨g,0,none⟩:Addr).add j=⟨g,j,none⟩ from by unfold Addr.add;split <;> simp_all];exact this
 have mixed:=L.mixed;have t72:=L.t72;have a72:=L.a72;have z72:=L.z72;have v72:=L.v72;have u72:=run_underlying L.t72;have t70:=L.t70;have a70:=L.a70;have z70:=L.z70;have v70:=L.v70;have u70:=run_underlying L.t70;have t37:=L.t37;have a37:=L.a37;have z37:=L.z37;have v37:=L.v37;have u37:=run_underlying L.t37;have t127:=L.t127;have a127:=L.a127;have z127:=L.z127;have v127:=L.v127;have u127:=run_underlying L.t127;have t3:=L.t3;have a3:=L.a3;have z3:=L.z3;have v3:=L.v3;have u3:=run_underlying L.t3;have t9:=L.t9;have a9:=L.a9;have z9:=L.z9;have v9:=L.v9;have u9:=run_underlying L.t9;have t5:=X.t5;have a5:=X.a5;have z5:=X.z5;have v5:=X.v5;have u5:=run_underlying X.t5
 go_enter L.f169,Abw ρ
 go_wp2
 go_region_o
 all_goals (go_wp2;go_ret;exact ⟨rfl,rfl⟩)
set_option maxHeartbeats 2000000 in
set_option maxRecDepth 100000 in
theorem ma (L:Lays.n169 P ρ) (X:Aaz P ρ) (b:Nat) (p:Value) (w:World) (hbk:w.heap[b]?=some (.cells #[p,.slice none 0 0] (ρ.t 72) (0,0))) :
 Calls P (ρ.f 169) #[.pointer (some ⟨b,0,none⟩)] w fun e w'=>e=.returned (.string ⟨#[]⟩)/\w'=w.drew:=by
 have hUS:=Any.unsafeString_none L X
 have c1:w.drew.cell? ⟨b,1,none⟩=some (.slice none 0 0):=by
  have:w.drew.heap[b]?=some (.cells #[p,.slice none 0 0] (ρ.t 72) (0,0)):=hbk;rw [Abu this];rfl
 have hSD:(Aay #[(ρ.t 37)] (ρ.t 127) #[.slice none 0 0]).run P w.drew=.ok (.pointer none) w.drew:=rfl;have mixed:=L.mixed;have t72:=L.t72;have a72:=L.a72;have z72:=L.z72;have v72:=L.v72;have u72:=run_underlying L.t72;have t70:=L.t70;have a70:=L.a70;have z70:=L.z70;have v70:=L.v70;have u70:=run_underlying L.t70;have t37:=L.t37;have a37:=L.a37;have z37:=L.z37;have v37:=L.v37;have u37:=run_underlying L.t37;have t127:=L.t127;have a127:=L.a127;have z127:=L.z127;have v127:=L.v127;have u127:=run_underlying L.t127;have t3:=L.t3;have a3:=L.a3;have z3:=L.z3;have v3:=L.v3;have u3:=run_underlying L.t3;have t9:=L.t9;have a9:=L.a9;have z9:=L.z9;have v9:=L.v9;have u9:=run_underlying L.t9;have t5:=X.t5;have a5:=X.a5;have z5:=X.z5;have v5:=X.v5;have u5:=run_underlying X.t5
 go_enter L.f169,Abw ρ
 go_wp2
 go_region_o
 all_goals (go_wp2;go_ret;exact ⟨rfl,rfl⟩)
theorem dX:(Aa0.info? 153).map (·.size)=some 2:=by kernel_rfl
theorem pA:liesAt Aa0 Aa0.depth 153 (2 / Aa0.cellsOf 153) 0 153 1=true:=by kernel_rfl
set_option maxHeartbeats 2000000 in
set_option maxRecDepth 100000 in
theorem pB (b:Nat) (w:World) (h0:w.cell? ⟨b,0,none⟩=some (.pointer (some ⟨b,0,none⟩))) :
 Calls Aa0 166 #[.pointer (some ⟨b,0,none⟩)] w fun e w'=>e=.returned (.tuple #[])/\w'=w:=by
 obtain ⟨j,hj,_⟩:=Aa8.1 dX;have mixed:Aa0.follows .mixedOrders=true:=by kernel_rfl
 have t0:=Aa7;have a0:=Ab5;have z0:=Ab0;have v0:=Aam;have u0:=run_underlying Aa7;have t1:=Aa2;have a1:=Ab6;have z1:=Ab1;have v1:=Aan;have u1:=run_underlying Aa2;have t2:=Aa5;have a2:=Aak;have z2:=Aai;have v2:=Aae;have u2:=run_underlying Aa5;have t3:=Aab;have a3:=Abe;have z3:=Ab8;have v3:=Aat;have u3:=run_underlying Aab;have t4:=Aa6;have a4:=Ac1;have z4:=Abx;have v4:=Abm;have u4:=run_underlying Aa6
 go_enter Aba,Ac0
 go_wp2
 rw [Lib.run_neq_ptr_same w _ Aa2 hj]
 go_wp2
 go_end0
 exact ⟨rfl,rfl⟩
set_option maxHeartbeats 2000000 in
set_option maxRecDepth 100000 in
theorem mb (b:Nat) (w:World) (h0:w.cell? ⟨b,0,none⟩=some (.pointer none)) (vw:w.shape? b=some (153,2)) (hU:w.frozen? ⟨b,0,none⟩=false) :
 Calls Aa0 166 #[.pointer (some ⟨b,0,none⟩)] w fun e w'=>e=.returned (.tuple #[])/\w'=w.setCell ⟨b,0,none⟩ (.pointer (some ⟨b,0,none⟩)):=by
 obtain ⟨j,hj,hjs⟩:=Aa8.1 dX;have mixed:Aa0.follows .mixedOrders=true:=by kernel_rfl
 have t0:=Aa7;have a0:=Ab5;have z0:=Ab0;have v0:=Aam;have u0:=run_underlying Aa7;have t1:=Aa2;have a1:=Ab6;have z1:=Ab1;have v1:=Aan;have u1:=run_underlying Aa2;have t2:=Aa5;have a2:=Aak;have z2:=Aai;have v2:=Aae;have u2:=run_underlying Aa5;have t3:=Aab;have a3:=Abe;have z3:=Ab8;have v3:=Aat;have u3:=run_underlying Aab;have t4:=Aa6;have a4:=Ac1;have z4:=Abx;have v4:=Abm;have u4:=run_underlying Aa6
 go_enter Aba,Ac0
 go_wp2
 rw [Lib.run_to_unsafe w ⟨b,0,none⟩ Aa2 Aa6 hj (by rw [hjs];decide) vw (Nat.zero_lt_succ 1)];simp only [Aav];rw [Aaw]
 go_wp2
 rw [run_callFunc_extern Tryz.func176 (by kernel_rfl) (by kernel_rfl) (by kernel_rfl) (e:=Abr) (by kernel_rfl)];rw [Lib.run_noEscape];simp only [Aav];rw [Aaw]
 go_wp2
 rw [Lib.run_from_unsafe w ⟨b,0,none⟩ Aa6 Aa2 hj vw pA];simp only [Aav];rw [Aaw]
 go_wp2
 go_end0
 exact ⟨rfl,rfl⟩
open Go Go.Proofs Go.RowKit
set_option maxRecDepth 100000
theorem pC {args:List PV} {bx bx':List PBox} {p:Bool} {v:PV} (h:uV args bx=some (p,v,bx')):∃ id q,args=[.bp id 0]/\p=false/\v=.tup [] /\
 ((bx[id]?=some (.cells 153 [.nilp,q])/\bx'=bx.set id (.cells 153 [.bp id 0,q]))\/(bx[id]?=some (.cells 153 [.bp id 0,q])/\bx'=bx)):=by
 unfold uV at h;split at h
 · rename_i id
   split at h
   · rename_i t q hb
     split at h
     · rename_i ht
       subst ht;injection h with h
       injection h with h1 h
       injection h with h2 h3
       exact ⟨id,q,rfl,h1.symm,h2.symm,.inl ⟨hb,h3.symm⟩⟩
     · cases h
   · rename_i t id' q hb
     split at h
     · rename_i ht
       obtain ⟨y0,yp⟩:=ht;subst y0 yp;injection h with h
       injection h with h1 h
       injection h with h2 h3
       exact ⟨_,q,rfl,h1.symm,h2.symm,.inr ⟨hb,h3.symm⟩⟩
     · cases h
   · cases h
 · cases h
theorem gM {args:List PV} {bx bx':List PBox} {p:Bool} {v:PV} (h:Pb args bx=some (p,v,bx')):∃ id q,args=[.bp id 0]/\p=false /\
 ((bx[id]?=some (.cells 153 [q,.nils])/\v=.str []/\bx'=bx) \/
  (∃ xs l,bx[id]?=some (.cells 153 [q,.osl 5 xs])/\xs≠[]/\xs.all U2=true/\bytesOf xs=some l/\v=.str l/\bx'=bx.set id (.cells 153 [q,.sl xs]))):=by
 unfold Pb at h;split at h
 · rename_i id
   split at h
   · rename_i t q hb
     split at h
     · rename_i ht
       subst ht;injection h with h
       injection h with h1 h
       injection h with h2 h3
       exact ⟨id,q,rfl,h1.symm,.inl ⟨hb,h2.symm,h3.symm⟩⟩
     · cases h
   · rename_i t q e xs hb
     split at h
     · rename_i ht
       obtain ⟨y0,yp,ht3,ht4⟩:=ht;subst y0 yp;obtain ⟨l,hl,h⟩:=Aa8.1 h;injection h with h1 h
       injection h with h2 h3
       exact ⟨id,q,rfl,h1.symm,.inr ⟨xs,l,hb,(fun e=>by subst e;cases ht3),ht4,hl,h2.symm,h3.symm⟩⟩
     · cases h
   · cases h
 · cases h
theorem Zd:∀ (xs:List PV) (l:List UInt8),xs.all U2=true->bytesOf xs=some l->xs=l.map fun b=>PV.int .u8 (b.toNat:Int)
 | [],l,_,h=>by injection h with h;subst h;rfl
 | v :: r,l,ha,h=>by
  simp only [List.all_cons,Aah] at ha;obtain ⟨hv,hr⟩:=ha;unfold U2 at hv;split at hv
  · rename_i n
    simp only [Aah,decide_eq_true_eq] at hv;unfold bytesOf at h;obtain ⟨l',D4,rfl⟩:=Aa8.1 h;have ih:=Zd r l' hr D4;rw [List.map_cons,<- ih]
    congr 2
    rw [UInt8.toNat_ofNat'];omega
  · cases hv
theorem bM (l:List UInt8):flat (l.map fun b=>PV.int .u8 (b.toNat:Int))=l.map fun b=>PV.int .u8 (b.toNat:Int):=by
 induction l with
 | nil=>rfl
 | cons b r ih=>
  show PV.cells (PV.int .u8 (b.toNat:Int))++flat (r.map fun b=>PV.int .u8 (b.toNat:Int))=_;rw [ih];rfl
theorem Ze (w:World) (g n:Nat) (a:Addr):(w.drew.freeze ⟨g,0,none⟩ n).cell? a=w.cell? a:=by
 unfold Aaf;split
 · rfl
 · unfold World.cell?
   simp only [Aaa];by_cases h:g=a.block
   · rw [if_pos h]
     show (match Option.map _ (w.heap[a.block]?) with | some (Obj.cells c _ _)=>_ | _=>none)=_;cases w.heap[a.block]? with
     | none=>rfl
     | some o=>
      cases o with
      | cells c e f=>obtain ⟨lo,hi⟩:=f;rfl
      | _=>rfl
   · rw [if_neg h]
     rfl
theorem Xc (w:World) (g n k:Nat) (h:k≠g):(w.drew.freeze ⟨g,0,none⟩ n).heap[k]?=w.heap[k]?:=by
 unfold Aaf;split
 · rfl
 · simp only
   rw [Aaa,if_neg (fun e=>h e.symm)];rfl
theorem Zf (w:World) (g n:Nat):(w.drew.freeze ⟨g,0,none⟩ n).heap.size=w.heap.size:=by
 unfold Aaf;split
 · rfl
 · simp only [Array.size_modify]
   rfl
theorem Xd {w:World} {b:Nat} {c:Array Value} {t:TypeId} {f:Nat×Nat} (h:w.heap[b]?=some (.cells c t f)) (v:Value):(w.setCell ⟨b,0,none⟩ v).heap[b]?=some (.cells (c.setIfInBounds 0 v) t f):=by
 simp [Ab4,Aaa,h]
theorem Mq {w:World} {b k:Nat} (v:Value) (h:k≠b):(w.setCell ⟨b,0,none⟩ v).heap[k]?=w.heap[k]?:=by
 simp only [Ab4,Aaa];rw [if_neg (fun e=>h e.symm)]
theorem Xe {c:Array Value} (h:c.size=2):∃ p q,c=#[p,q]:=⟨c[0],c[1],by apply Acf;simp [h];intro i h1 h2;match i with | 0=>rfl | 1=>rfl | n+2=>omega⟩
theorem VD {S:AI} {M:List Nat} {p:PV} {vs:List Value} (h:Cd S M [p] vs):∃ v,vs=[v]/\Rep S M p v:=by
 match vs,h with
 | [v],h=>exact ⟨v,rfl,h.2 0 (by simp) (by simp)⟩
 | [],h=>have:=h.1;cases this
 | _ :: _ :: _,h=>have:=h.1;simp at this
theorem xK (args:List PV) (bx:List PBox) (p:Bool) (v:PV) (bx':List PBox) (h:uV args bx=some (p,v,bx')) :
 Fi CC.P 166/\((∀ p ∈ args,∀ t xs,p≠.osl t xs) ->
  ∀ (B:Nat) (T:Nat->Prop) (S:AI) (M:List Nat) (vs:List Value) (w:World),CO CC B T S M bx w->Cd S M args vs ->
   Calls CC.P 166 vs.toArray w fun e w'=>∃ S' M',CO CC B T S' M' bx' w'/\Grows B T S w S' w'/\M <+: M'/\Outcome S' M' (if p then .pan v else .ret v) e):=by
 obtain ⟨id,q,rfl,rfl,rfl,JJ⟩:=pC h;refine ⟨⟨Tryz.f166,_,Aba,by kernel_rfl,rfl⟩,fun GU B T S M vs w hs DL=>?_⟩;obtain ⟨u,rfl,hu⟩:=VD DL;obtain ⟨b,hm,rfl⟩:=hu.bp_inv
 have J8:∃ p0,bx[id]?=some (.cells 153 [p0,q]):=by
  rcases JJ with ⟨h1,_⟩ | ⟨h1,_⟩
  · exact ⟨_,h1⟩
  · exact ⟨_,h1⟩
 rcases JJ with ⟨hb,rfl⟩ | ⟨hb,rfl⟩
 · obtain ⟨b',c,Hv,hh,hl,h1,hr⟩:=BoxAt.getT hs hb
   rw [hm] at Hv;injection Hv with Hv
   subst Hv;obtain ⟨c0,c1,rfl⟩:=Xe hl;have r0:=hr 0 (by simp) (by simp);have r1:=hr 1 (by simp) (by simp);simp only [Aa9,Aaj,Aad] at r0 r1;have e0:c0=.pointer none:=by cases r0;rfl
   subst e0;refine (mb b w (by rw [cell_of_heap hh] <;> rfl) (by simp [Aby,hh]) (by simp [World.frozen?,hh])).mono ?_
   rintro e w' ⟨rfl,rfl⟩
   have hid:id < bx.length:=(Aa4.1 hb).1;have ej:=Xd hh (.pointer (some ⟨b,0,none⟩))
   have OT:BoxAt S M (w.setCell ⟨b,0,none⟩ (.pointer (some ⟨b,0,none⟩))) (.cells 153 [.bp id 0,q]) b:=by
    refine .cells _ _ b _ ej rfl (fun i hi=>?_) (fun i hi Dp=>?_)
    · match i,hi with
      | 0,_=>rfl
      | 1,hi=>exact h1 1 (by simp)
    · match i,hi with
      | 0,_=>exact .bp id 0 b hm
      | 1,_=>exact r1
   obtain ⟨g1,g2⟩:=Sim.setBoxObj hs hm hid OT rfl rfl rfl (by simp [Ab4]) (fun k hk=>Mq _ hk) (fun t cs off e xs v hx hc hv=>by
    injection hx with _ hx
    subst hx
    match off,hc with
    | 0,hc=>cases hc
    | 1,hc=>
     left
     injection hc with hc
     subst hc;refine ⟨_,b,by unfold A0;rw [hb],rfl,hm,?_⟩;rw [cell_of_heap ej] at hv;rw [cell_of_heap hh];exact hv
    | n+2,hc=>cases hc)
   exact ⟨S,M,g1,g2,Aag _,show Outcome S M (.ret (.tup [])) _ from ⟨fun t xs h=>(by cases h),_,rfl,.tup _ _ rfl (fun i h=>by simp at h)⟩⟩
 · obtain ⟨b',c,Hv,hh,hl,h1,hr⟩:=BoxAt.getT hs hb
   rw [hm] at Hv;injection Hv with Hv
   subst Hv;obtain ⟨c0,c1,rfl⟩:=Xe hl;have r0:=hr 0 (by simp) (by simp);simp only [Aa9,Aad] at r0;obtain ⟨b2,y4,e0⟩:=r0.bp_inv;rw [hm] at y4;injection y4 with y4
   subst y4;subst e0;refine (pB b w (by rw [cell_of_heap hh] <;> rfl)).mono ?_
   rintro e w' ⟨rfl,rfl⟩
   exact ⟨S,M,hs,Grows.refl _ _ _ _,Aag _,show Outcome S M (.ret (.tup [])) _ from ⟨fun t xs h=>(by cases h),_,rfl,.tup _ _ rfl (fun i h=>by simp at h)⟩⟩
theorem infoByte:∃ i,Aa0.info? 5=some i/\i.size=1:=⟨(Aa0.info? 5).getD default,by kernel_rfl,by kernel_rfl⟩
theorem uc (args:List PV) (bx:List PBox) (p:Bool) (v:PV) (bx':List PBox) (h:Pb args bx=some (p,v,bx')) :
 Fi CC.P 157/\((∀ p ∈ args,∀ t xs,p≠.osl t xs) ->
  ∀ (B:Nat) (T:Nat->Prop) (S:AI) (M:List Nat) (vs:List Value) (w:World),CO CC B T S M bx w->Cd S M args vs ->
   Calls CC.P 157 vs.toArray w fun e w'=>∃ S' M',CO CC B T S' M' bx' w'/\Grows B T S w S' w'/\M <+: M'/\Outcome S' M' (if p then .pan v else .ret v) e):=by
 obtain ⟨id,q,rfl,rfl,JJ⟩:=gM h;refine ⟨⟨Tryz.f157,_,Ac6,by kernel_rfl,rfl⟩,fun GU B T S M vs w hs DL=>?_⟩;obtain ⟨u,rfl,hu⟩:=VD DL;obtain ⟨b,hm,rfl⟩:=hu.bp_inv;rcases JJ with ⟨hb,rfl,rfl⟩ | ⟨xs,l,hb,Dz,D1,vf,rfl,rfl⟩
 · obtain ⟨b',c,Hv,hh,hl,h1,hr⟩:=BoxAt.getT hs hb
   rw [hm] at Hv;injection Hv with Hv
   subst Hv;obtain ⟨c0,c1,rfl⟩:=Xe hl;have r1:=hr 1 (by simp) (by simp);simp only [Aa9,Aaj,Aad] at r1;have e1:c1=.slice none 0 0:=r1.nils_inv;subst e1;refine (ma Tryz.lays169 Tryz.Builder_Extra_169 b c0 w hh).mono ?_
   rintro e w' ⟨rfl,rfl⟩
   refine ⟨S,M,?_,?_,Aag _,show Outcome S M (.ret (.str [])) _ from ⟨fun t xs h=>(by cases h),_,rfl,.str []⟩⟩
   · exact (Sim.touch hs none (fun k h=>by cases h) (fun _ _ _ _ _ _ _ h=>by cases h) (fun k h=>by cases h) (S':=S) (w':=w.drew) rfl rfl rfl (Aax _) (fun _ _ _=>rfl) (AI.le.refl _) (fun _ _ _ _=>rfl) (fun b o v h=>hs.holds b o v h)).1
   · exact (Sim.touch hs none (fun k h=>by cases h) (fun _ _ _ _ _ _ _ h=>by cases h) (fun k h=>by cases h) (S':=S) (w':=w.drew) rfl rfl rfl (Aax _) (fun _ _ _=>rfl) (AI.le.refl _) (fun _ _ _ _=>rfl) (fun b o v h=>hs.holds b o v h)).2
 · obtain ⟨b',c,Hv,hh,hl,h1,hr⟩:=BoxAt.getT hs hb
   rw [hm] at Hv;injection Hv with Hv
   subst Hv;obtain ⟨c0,c1,rfl⟩:=Xe hl;have r1:=hr 1 (by simp) (by simp);simp only [Aa9,Aaj,Aad] at r1;have hbc:A0 bx id=some [q,.osl 5 xs]:=by unfold A0;rw [hb]
   have Gr:LocAt ⟨[],bx⟩ M ⟨#[],[]⟩ w (.box id 1) (.osl 5 xs) c1:=⟨_,b,hbc,rfl,hm,by rw [cell_of_heap hh];rfl⟩;obtain ⟨⟨i,vals,hi,GN,mN,vl⟩,vh⟩:=hs.own _ _ _ _ Gr;obtain ⟨i',Dp,BF⟩:=infoByte;have hii:i=i':=Option.some.inj (hi.symm.trans Dp);subst hii;rw [BF] at GN;have Xv:=Zd xs l D1 vf;have hlen:xs.length=l.length:=by rw [Xv];simp
   have Zh:l≠[]:=fun e=>Dz (by rw [Xv,e] <;> rfl);have vo:Rep S M (.sl xs) c1:=by cases r1 with | osl _ _ _ h=>exact h
   rcases GN.2 with ⟨hz,hz2⟩ | ⟨g,cap,cur,hv,_,hg,yI,uk,JI,htake⟩
   · exfalso
     have:l.length=0:=by omega
     exact Zh (List.length_eq_zero_iff.1 this)
   · subst hv
     have Ho:∀ j x,l[j]?=some x->w.cell? ⟨g,j,none⟩=some (.int .u8 x.toNat):=by
      intro j x hj;have hjl:j < l.length:=(Aa4.1 hj).1;have Zj:flat xs=xs:=by rw [Xv];exact bM l
      generalize Hx:Ac3 (some ⟨g,0,none⟩) xs.length cap=sv at vo;cases vo with
      | slE=>exact absurd rfl Dz
      | sl _ b0 o0 cap0 f0 hc hz hsS re VE=>
       injection Hx with vp ia hv3
       injection vp with vp
       injection vp with hv4 hv5 hv6
       subst hv4;subst hv5;have gT:j < (flat xs).length:=by rw [Zj,hlen];exact hjl
       have a1:=hsS j gT;have a2:=VE j gT
       have a3:(flat xs)[j]?=some (.int .u8 (x.toNat:Int)):=by
        rw [Zj,Xv,Aao,hj];rfl
       rw [Aa3 gT] at a3;injection a3 with a3
       rw [a3] at a2;rw [Abb] at a1;have a4:=hs.holds _ _ _ a1;generalize f0 j=fv at a2 a4;cases a2 with
       | int=>exact a4
     rw [hlen] at hh yI;refine (l9 Tryz.lays169 Tryz.Builder_Extra_169 b g cap c0 cur (0,0) l w Zh yI uk (by omega) hh hg Ho).mono ?_
     rintro e w' ⟨rfl,rfl⟩
     have Hx:Fb ⟨[],bx⟩ (.box id 1)=.osl 5 xs:=by unfold Fb;simp only [hbc];rfl
     obtain ⟨k1,k2⟩:=Sim.roLoc hs (.box id 1) Hx
     have Ez:FW ⟨[],bx⟩ (.box id 1) (.sl xs)=⟨[],bx.set id (.cells 153 [q,.sl xs])⟩:=by
      unfold FW QM;simp only [hb];rfl
     rw [Ez] at k1 k2;have K1:(Ac3 (some ⟨g,0,none⟩) xs.length cap).ownBlock=some g:=rfl
     have tt:=Sim.touch k1 (some g) (fun k h=>by injection h with h;subst h;exact (vl g K1).1)
      (fun l' e' xs' v' k D4 Pm hgk=>by
       injection hgk with hgk
       subst hgk;obtain ⟨m1,m2⟩:=k2 l' e' xs' v' D4;exact m2 (hs.apart _ _ _ _ _ _ _ _ g m1 Gr Pm K1))
      (fun k h=>by injection h with h;subst h;exact vh g K1)
      (S':=S) (w':=w.drew.freeze ⟨g,0,none⟩ l.length) (by unfold Aaf;split <;> rfl) (by unfold Aaf;split <;> rfl) (by unfold Aaf;split <;> rfl)
      (by rw [Zf];exact Aax _) (fun k _ hk=>Xc w g l.length k (fun e=>hk (by rw [e]))) (AI.le.refl _) (fun _ _ _ _=>rfl)
      (fun b o v h=>by rw [Ze];exact hs.holds b o v h)
     exact ⟨S,M,tt.1,tt.2,Aag _,show Outcome S M (.ret (.str l)) _ from ⟨fun t xs h=>(by cases h),_,rfl,.str l⟩⟩
theorem bN:G6 CC:=by
 intro f g hg;have D5:(if f=166 then some uV else if f=157 then some Pb else none)=some g:=hg;split at D5
 · rename_i h
   subst h;injection D5 with D5
   subst D5;exact xK
 · split at D5
   · rename_i h
     subst h;injection D5 with D5
     subst D5;exact uc
   · cases D5
open Go.Sort
theorem ud:Aa0.globalNamed "internal/strconv.uint64pow10"=some 1:=by kernel_rfl
theorem gN {S:AI} {w:World} (h:Rep S [] (.ip Ds) (.pointer (some ⟨1,0,none⟩))) (hS:∀ b o v,S b o=some v->w.cell? ⟨b,o,none⟩=some v) :
 ∀ i z,Aa1[i]?=some z->w.cell? ⟨1,i,none⟩=some (.int .u64 z):=by
 intro i z hi;cases h with
 | ip _ _ _ f hs _ hr=>
  have hl:i < Ds.length:=by
   have:=(Aa4.1 hi).1;simpa [Ds] using this
  have h1:=hs i hl;have h2:=hr i hl
  have h3:Ds[i]=.int .u64 z:=by
   have Bz:=(Aa4.1 hi).1;have:Aa1[i]=z:=(Aa4.1 hi).2;simp [Ds,this]
  rw [h3] at h2;rw [Abb] at h1;have:=hS _ _ _ h1;generalize f i=v at h2 this;cases h2 with
  | int k n=>exact this
theorem ue {S:AI} {w:World} (h:Rep S [] (.ip Ds) (.pointer (some ⟨1,0,none⟩))) (hS:∀ b o v,S b o=some v->w.cell? ⟨b,o,none⟩=some v)
 (hw:∃ c e f,w.heap[1]?=some (.cells c e f)/\c.size=Ds.length):Abv Aa0 w "internal/strconv.uint64pow10" .u64 Aa1:=by
 obtain ⟨c,e,f,h1,h2⟩:=hw;unfold Abv Acd;rw [ud];simp only [Abj,h1]
 congr 1
 apply Acf
 · rw [h2];simp [Ds]
 · intro i hi Dp
   simp at Dp;have h3:=gN h hS i (Aa1[i]) (Aa3 Dp);rw [cell_of_heap h1] at h3;rw [Array.getElem?_eq_getElem hi] at h3;injection h3 with h3
   rw [h3];simp
theorem gO {S:AI} {w:World} (k:Nat) (os:Array Obj) (hS:∀ b o v,S b o=some v->w.cell? ⟨b,o,none⟩=some v):Kept S w S (grow (w.drewN k) os):=by
 have hb:∀ j,j < w.heap.size->(grow (w.drewN k) os).heap[j]?=w.heap[j]?:=fun j hj=>by
  show (w.heap++os)[j]?=_;rw [Array.getElem?_append_left hj]
 refine ⟨rfl,rfl,rfl,by show w.heap.size<=(w.heap++os).size;simp,hb,AI.le.refl _,fun _ _ _=>rfl,fun b o v hv=>?_⟩;have h1:=hS b o v hv;rw [World.cell?_of_block (a:=⟨b,o,none⟩) (hb b (Ik h1))];exact h1
theorem gP {args:List PV} {r:PV} (h:U1 args=some r):∃ n,args=[.int .i64 n]/\Dx n/\r=.str (Lib.itoa n):=by
 unfold U1 at h;split at h
 · split at h
   · rename_i n _ hn
     injection h with h
     exact ⟨_,rfl,hn,h.symm⟩
   · cases h
 · cases h
def bO (f:FuncId) (g:List PV->Option PV):Prop:=Fi CC.P f/\∀ (args:List PV) (r:PV),g args=some r->(∀ t xs,r≠.osl t xs) /\
 ∀ (S:AI) (vs:List Value) (w:World),(∀ b o v,S b o=some v->w.cell? ⟨b,o,none⟩=some v) ->
  (∀ g cs,CC.glob g=some cs->Rep S [] (.ip cs) (.pointer (some ⟨g,0,none⟩)))->(∀ g cs,CC.glob g=some cs->∃ c e f,w.heap[g]?=some (.cells c e f)/\c.size=cs.length)->Cd S [] args vs ->
  Calls CC.P f vs.toArray w fun e w'=>∃ S',Kept S w S' w'/\∃ v,e=.returned v/\Rep S' [] r v
theorem gQ {S:AI} {w:World} (hS:∀ b o v,S b o=some v->w.cell? ⟨b,o,none⟩=some v):Kept S w S w:=⟨rfl,rfl,rfl,Aax _,fun _ _=>rfl,AI.le.refl _,fun _ _ _=>rfl,hS⟩
theorem mc {S:AI} {p:PV} {vs:List Value} (h:Cd S [] [p] vs):∃ v,vs=[v]/\Rep S [] p v:=by
 match vs,h with
 | [v],h=>exact ⟨v,rfl,h.2 0 (by simp) (by simp)⟩
 | [],h=>have:=h.1;cases this
 | _ :: _ :: _,h=>have:=h.1;simp at this
theorem me {S:AI} {p q:PV} {vs:List Value} (h:Cd S [] [p,q] vs):∃ v u,vs=[v,u]/\Rep S [] p v/\Rep S [] q u:=by
 match vs,h with
 | [v,u],h=>exact ⟨v,u,rfl,h.2 0 (by simp) (by simp),h.2 1 (by simp) (by simp)⟩
 | [],h=>have:=h.1;cases this
 | [_],h=>have:=h.1;simp at this
 | _ :: _ :: _ :: _,h=>have:=h.1;simp at this
theorem gR:bO 125 U1:=by
 refine ⟨⟨Tryz.f125,_,Ac8,by kernel_rfl,rfl⟩,fun args r hr=>?_⟩;obtain ⟨n,rfl,hn,rfl⟩:=gP hr;refine ⟨fun t xs h=>(by cases h),fun S vs w hS gV yP DL=>?_⟩;obtain ⟨v,rfl,h0⟩:=mc DL;cases h0 with
 | int=>
  refine (Tryz.strconv_Itoa n hn.1 hn.2 w (ue (gV _ Ds rfl) hS (yP _ Ds rfl))).mono ?_
  rintro e w' ⟨rfl,k,os,rfl⟩
  exact ⟨S,gO k os hS,_,rfl,.str _⟩
theorem mf {args:List PV} {r:PV} (h:fi args=some r):∃ s c,args=[.str s,.int .u8 c]/\r=.int .i64 (Ac9 s c.toNat.toUInt8):=by
 unfold fi at h;split at h
 · injection h with h
   exact ⟨_,_,rfl,h.symm⟩
 · cases h
theorem SW:bO 136 fi:=by
 refine ⟨⟨Tryz.f136,_,Ac7,by kernel_rfl,rfl⟩,fun args r hr=>?_⟩;obtain ⟨s,c,rfl,rfl⟩:=mf hr;refine ⟨fun t xs h=>(by cases h),fun S vs w hS gV yP DL=>?_⟩;obtain ⟨v,u,rfl,h0,h1⟩:=me DL;cases h0 with
 | str=>
  cases h1 with
  | int=>
   refine (Tryz.strings_IndexByte ⟨s.toArray⟩ c w).mono ?_
   rintro e w' ⟨rfl,rfl⟩
   exact ⟨S,gQ hS,_,rfl,.int _ _⟩
theorem gS:GP CC:=by
 intro f g hg;show bO f g;have D5:az f=some g:=hg;unfold az at D5;split at D5
 · rename_i h
   subst h;injection D5 with D5
   subst D5;exact gR
 split at D5
 · rename_i h
   subst h;injection D5 with D5
   subst D5;exact SW
 cases D5
theorem pD {W:World} {c:Array Value} {e:TypeId} {f:Nat×Nat} (hh:W.heap[1]?=some (.cells c e f)) (hc:c.toList=Aa1.map fun z=>Abl .u64 z) :
 (∃ c e f,W.heap[1]?=some (.cells c e f)/\c.size=Ds.length)/\Rep (EI W) [] (.ip Ds) (.pointer (some ⟨1,0,none⟩)):=by
 have IV:c.size=Ds.length:=by
  have:=congrArg List.length hc;simpa [Ds] using this
 have Ho:∀ i,i < Ds.length->W.cell? ⟨1,i,none⟩=some (.int .u64 (Aa1.getD i 0)):=fun i hi=>by
  rw [cell_of_heap hh];have Dp:i < Aa1.length:=by simpa [Ds] using hi
  have:c.toList[i]?=some (Abl .u64 (Aa1.getD i 0)):=by
   rw [hc,Aao,Aa3 Dp,Ab2,Aa3 Dp];rfl
  simpa using this
 refine ⟨⟨c,e,f,hh,IV⟩,.ip _ _ _ (fun i=>.int .u64 (Aa1.getD i 0)) (fun i hi=>?_) (fun i hi=>rfl) (fun i hi=>?_)⟩
 · rw [Abb];exact Ho i hi
 · have Dp:i < Aa1.length:=by simpa [Ds] using hi
   have h1:Ds[i]?=some (.int .u64 (Aa1.getD i 0)):=by
    show (Aa1.map (PV.int .u64))[i]?=_;rw [Aao,Ab2,Aa3 Dp];rfl
   rw [Aa3 hi] at h1;injection h1 with h1
   rw [h1];exact .int _ _
end Go.HH
namespace Go.Proofs.YthjcaihemgllaaaGreatDoor
open Go.ChangeShapes Go.WideShapes Go.ChangeAt Go.RowKit Go.HH
set_option linter.unusedVariables false
set_option maxRecDepth 100000
def Zg:List (String×DataW Unit):=[("math/bits.deBruijn32tab",Rows.laid_math_bits_deBruijn32tab),("math/bits.deBruijn64tab",Rows.laid_math_bits_deBruijn64tab),("internal/strconv.uint64pow10",Rows.laid_internal_strconv_uint64pow10)]
theorem mg (os:Os) (args:Array Value):laidMetH Aa0 Zg ((World.doorLaid Aa0 400 os).forCall (fun _ _=>0) ⟨#[],args,[]⟩).memory:=
 laidMetH_of_parts3 (fuel:=8) (laidMet_of_run' 8 (by kernel_rfl) (by kernel_rfl)) (by kernel_rfl) (by kernel_rfl)
theorem pE {W:World} (h:laidMetH Aa0 Zg W):(∃ c e f,W.heap[1]?=some (.cells c e f)/\c.size=Ds.length)/\Rep (EI W) [] (.ip Ds) (.pointer (some ⟨1,0,none⟩)):=by
 rw [MakeChecks.laidMetH_plain _ _ _ (by kernel_rfl)] at h;obtain ⟨ps,⟨g0,t0,cs0,f0,p0,q0,hg0,ht0,hv0,sL,⟨g1,t1,cs1,f1,p1,q1,pL,y0,vp,hd1,⟨g2,t2,cs2,f2,p2,q2,pP,yp,ia,hQ,_,_⟩,_⟩,_⟩,_,_⟩:=h;obtain rfl:=Option.some.inj (ud.symm.trans pP);have yG:(Aa0.globals[1]?).map (·.type)=some 178:=by kernel_rfl
 obtain rfl:=Option.some.inj (yG.symm.trans yp);have hdat:(Rows.laid_internal_strconv_uint64pow10:DataW Unit)=Lib.tabData .u64 Aa1:=by kernel_rfl
 have JI:=Lib.cells_of_tab (k:=.u64) (zs:=Aa1) (n:=20) Abh Abi (by kernel_rfl) (by kernel_rfl) (by rw [<- hdat];exact hQ)
 have K2:∃ c e f,W.heap[1]?=some (.cells c e f)/\c.toList=Aa1.map fun z=>Abl .u64 z:=by
  unfold Acd at ia;rw [ud] at ia;simp only [Abj] at ia;split at ia
  · rename_i c e f hh
    injection ia with ia
    exact ⟨c,e,f,hh,by rw [ia];exact JI⟩
  · cases ia
 obtain ⟨c,e,f,hh,hc⟩:=K2;exact pD hh hc
end Go.Proofs.YthjcaihemgllaaaGreatDoor
