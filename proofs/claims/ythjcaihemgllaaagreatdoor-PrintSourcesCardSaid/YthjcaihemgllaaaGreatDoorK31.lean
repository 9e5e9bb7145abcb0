/-
  What the law needs, packed: Ds.
-/
import Derived.Test.YthjcaihemgllaaaGreatDoorK30
open Go.Region renaming binds->Aau
open List renaming all_eq_true->Aav,pairwise_cons->Aax,contains_cons->Aay,mem_cons->Aaz
open Bool renaming false_or->Aaw
namespace Go.HH
open Go
def By (e0:List PV) (D:Nat->Bool):List (Nat×Nat×PV)->List PV
 | []=>e0
 | (i,d,v) :: r=>if D i then setT (By e0 D r) d v else By e0 D r
def DP (D:Nat->Bool) (i:Nat):Nat->Bool:=fun j=>j == i || D j
theorem Ma:∀ (e:List PV) (i j:Nat) (a b:PV),i≠j->setT (setT e i a) j b=setT (setT e j b) i a
 | [],0,0,_,_,h=>absurd rfl h
 | [],0,j+1,a,b,_=>by simp [setT]
 | [],i+1,0,a,b,_=>by simp [setT]
 | [],i+1,j+1,a,b,h=>by
  have:=Ma [] i j a b (by omega);simp [setT,this]
 | _ :: _,0,0,_,_,h=>absurd rfl h
 | _ :: _,0,j+1,_,_,_=>by simp [setT]
 | _ :: _,i+1,0,_,_,_=>by simp [setT]
 | x :: r,i+1,j+1,a,b,h=>by
  have:=Ma r i j a b (by omega);simp [setT,this]
theorem Av (e:List PV) (a b:Nat) (x y:PV) (h:a≠b):setT (setT e a x) b y=setT (setT e b y) a x:=Ma e a b x y h
theorem Hc (e0:List PV) (D:Nat->Bool) (i:Nat):∀ L:List (Nat×Nat×PV),(∀ x ∈ L,x.1≠i)->By e0 (DP D i) L=By e0 D L
 | [],_=>rfl
 | (j,d,v) :: r,h=>by
  have hj:j≠i:=h (j,d,v) (by simp);have ih:=Hc e0 D i r (fun x hx=>h x (by simp [hx]));unfold By DP;rw [beq_eq_false_iff_ne.2 hj,Aaw,show (fun j=>j == i || D j)=DP D i from rfl,ih]
theorem B1 (e0:List PV) (D:Nat->Bool) (i d:Nat) (v:PV) (hD:D i=false):∀ L:List (Nat×Nat×PV),(i,d,v) ∈ L->L.Pairwise (fun x y=>x.1≠y.1/\x.2.1≠y.2.1)->setT (By e0 D L) d v=By e0 (DP D i) L
 | [],h,_=>by simp at h
 | (j,d',v') :: r,h,hp=>by
  rw [Aax] at hp;rcases Aaz.1 h with h | h
  · injection h with h1 h2
    injection h2 with h2 h3
    subst h1 h2 h3;have hs:=Hc e0 D i r (fun x hx=>Ne.symm (hp.1 x hx).1);show setT (if D i then _ else _) d v=if DP D i i then _ else _
    rw [hD,hs,show DP D i i=true from by unfold DP;rw [beq_self_eq_true];rfl];rfl
  · have qE:=hp.1 _ h
    have ih:=B1 e0 D i d v hD r h hp.2;show setT (if D j then _ else _) d v=if DP D i j then _ else _
    rw [show DP D i j=D j from by unfold DP;rw [beq_eq_false_iff_ne.2 qE.1,Aaw]];cases D j with
    | true=>
     simp only [if_true];rw [Av _ _ _ _ _ qE.2,ih]
    | false=>
     simp only [Bool.false_eq_true,if_false];exact ih
theorem Hd (e0:List PV) (D:Nat->Bool) (t:Nat):∀ L:List (Nat×Nat×PV),(∀ x ∈ L,x.2.1≠t)->getT (By e0 D L) t=getT e0 t
 | [],_=>rfl
 | (j,d,v) :: r,h=>by
  have ih:=Hd e0 D t r (fun x hx=>h x (by simp [hx]));have hd:d≠t:=h (j,d,v) (by simp);show getT (if D j then _ else _) t=_;cases D j with
  | true=>
   simp only [if_true];rw [Dc,if_neg (Ne.symm hd),ih]
  | false=>simpa using ih
theorem BT (e0:List PV) (D:Nat->Bool) (i d:Nat) (v:PV) (hD:D i=true):∀ L:List (Nat×Nat×PV),(i,d,v) ∈ L->L.Pairwise (fun x y=>x.1≠y.1/\x.2.1≠y.2.1)->getT (By e0 D L) d=v
 | [],h,_=>by simp at h
 | (j,d',v') :: r,h,hp=>by
  rw [Aax] at hp;rcases Aaz.1 h with h | h
  · injection h with h1 h2
    injection h2 with h2 h3
    subst h1 h2 h3;show getT (if D i then _ else _) d=v;rw [hD,if_pos rfl,Dc,if_pos rfl]
  · have qE:=hp.1 _ h
    have ih:=BT e0 D i d v hD r h hp.2;show getT (if D j then _ else _) d=v;cases D j with
    | true=>
     simp only [if_true];rw [Dc,if_neg (Ne.symm qE.2),ih]
    | false=>simpa using ih
theorem B7 {D:Nat->Bool} {i j:Nat} (h:j≠i):DP D i j=D j:=by unfold DP;rw [beq_eq_false_iff_ne.2 h,Aaw]
theorem Vc {D:Nat->Bool} {i:Nat}:DP D i i=true:=by unfold DP;rw [beq_self_eq_true];rfl
section
variable {C:Cfg} {call:Cn} {ops:Array Oper} {e0:List PV} {L:List (Nat×Nat×PV)} {bxOf:(Nat->Bool)->List PBox}
theorem Vd (NU:∀ (D:Nat->Bool) (i:Nat) (o:Oper),ops[i]?=some o->D i=false->(∀ e ∈ o.after.toList,Aau .any e=true->D e.on=true)->(∀ j o,ops[j]?=some o->D j=true->∀ e ∈ o.after.toList,Aau .any e=true->D e.on=true)->o.guard=none/\∀ al,∃ al',Bq C call false al o ⟨By e0 D L,bxOf D⟩=some (.next ⟨By e0 (DP D i) L,bxOf (DP D i)⟩ al')) :
 ∀ (k:Nat) (acc l:List Nat),(∀ j o,ops[j]?=some o->acc.contains j=true->∀ e ∈ o.after.toList,Aau .any e=true->acc.contains e.on=true)->l ∈ Df ops k acc->∃ s,l=acc.reverse++s/\∀ al,evOps C call false ops (AR ops s) al ⟨By e0 (fun j=>acc.contains j) L,bxOf (fun j=>acc.contains j)⟩=some (.normal,⟨By e0 (fun j=>l.contains j) L,bxOf (fun j=>l.contains j)⟩)
 | 0,acc,l,_,h=>by
  simp only [Df,List.mem_singleton] at h;subst h;refine ⟨[],by simp,fun al=>?_⟩;have e:(fun j=>acc.reverse.contains j)=fun j=>acc.contains j:=by funext j;rw [Bool.eq_iff_iff];simp
  rw [e];rfl
 | k+1,acc,l,MA,h=>by
  unfold Df at h;rw [List.mem_flatMap] at h;obtain ⟨i,hi,h⟩:=h;split at h
  rotate_left
  · simp at h
  rename_i hr;have h':=h;unfold Ki at hr;simp only [Bool.and_eq_true,Bool.not_eq_true'] at hr;obtain ⟨hn,hr⟩:=hr;split at hr
  rotate_left
  · cases hr
  rename_i o ho;rw [Aav] at hr
  obtain ⟨hg,EC⟩:=NU (fun j=>acc.contains j) i o ho hn (fun e he hb=>by
   have:=hr e he;rw [hb] at this;simpa using this) MA
  have na:∀ j o,ops[j]?=some o->(i :: acc).contains j=true->∀ e ∈ o.after.toList,Aau .any e=true->(i :: acc).contains e.on=true:=by
   intro j o' UF hj e he hb;rw [Aay] at hj |-;simp only [Bool.or_eq_true,beq_iff_eq] at hj |-;rcases hj with rfl | hj
   · rw [ho] at UF
     injection UF with UF
     subst UF;have:=hr e he;rw [hb] at this;exact .inr (by simpa using this)
   · exact .inr (MA j o' UF hj e he hb)
  obtain ⟨s,hs,Ip⟩:=Vd NU k (i :: acc) l na h';refine ⟨i :: s,by rw [hs];simp,fun al=>?_⟩;obtain ⟨al',EC⟩:=EC al;have hp:AR ops (i :: s)=o :: AR ops s:=by unfold AR;rw [List.filterMap_cons,ho]
  rw [hp];unfold evOps;have hw:GB ops (By e0 (fun j=>acc.contains j) L) o=some true:=by unfold GB;rw [hg]
  simp only [hw,EC];have e:DP (fun j=>acc.contains j) i=fun j=>(i :: acc).contains j:=by funext j;unfold DP;rw [Aay]
  rw [e];exact Ip al'
theorem Rm (hc:((BO ops).all fun l=>(List.range ops.size).all fun j=>l.contains j)=true) (Dx:(BO ops).isEmpty=false)
 (NU:∀ (D:Nat->Bool) (i:Nat) (o:Oper),ops[i]?=some o->D i=false->(∀ e ∈ o.after.toList,Aau .any e=true->D e.on=true)->(∀ j o,ops[j]?=some o->D j=true->∀ e ∈ o.after.toList,Aau .any e=true->D e.on=true)->o.guard=none/\∀ al,∃ al',Bq C call false al o ⟨By e0 D L,bxOf D⟩=some (.next ⟨By e0 (DP D i) L,bxOf (DP D i)⟩ al'))
 {st:St} (h0:st=⟨By e0 (fun _=>false) L,bxOf (fun _=>false)⟩) {r:St} (h1:∀ D:Nat->Bool,(∀ j,j < ops.size->D j=true)->⟨By e0 D L,bxOf D⟩=r):drawAll C call ops st=some (.normal,r):=by
 refine AV.2 ⟨fun e=>(by rw [e] at Dx;cases Dx),fun l hl=>?_⟩;obtain ⟨s,hs,Ip⟩:=Vd NU _ [] l (fun j o _ h=>by simp at h) hl;simp only [List.reverse_nil,List.nil_append] at hs;subst hs;rw [Aav] at hc;have D3:=hc l hl;rw [Aav] at D3;have h2:=h1 (fun j=>l.contains j) (fun j hj=>D3 j (List.mem_range.2 hj));have h3:=Ip [];rw [h2] at h3;have e:(fun j=>([]:List Nat).contains j)=fun _=>false:=by funext j;rfl
 rw [e,<- h0] at h3;rw [h3];rfl
end
end Go.HH
