/-
  What the law needs, packed: Ds.
-/
import Derived.Test.YthjcaihemgllaaaGreatDoorJ30
open Go.Region renaming binds->Aa0
open List renaming all_eq_true->Aa1,pairwise_cons->Aa3,contains_cons->Aa4,mem_cons->Aa5
open Bool renaming false_or->Aa2
namespace Go.HH
open Go
def Bv (e0:List PV) (D:Nat->Bool):List (Nat×Nat×PV)->List PV
 | []=>e0
 | (i,d,v) :: r=>if D i then setT (Bv e0 D r) d v else Bv e0 D r
def DQ (D:Nat->Bool) (i:Nat):Nat->Bool:=fun j=>j == i || D j
theorem L2:∀ (e:List PV) (i j:Nat) (a b:PV),i≠j->setT (setT e i a) j b=setT (setT e j b) i a
 | [],0,0,_,_,h=>absurd rfl h
 | [],0,j+1,a,b,_=>by simp [setT]
 | [],i+1,0,a,b,_=>by simp [setT]
 | [],i+1,j+1,a,b,h=>by
  have:=L2 [] i j a b (by omega);simp [setT,this]
 | _ :: _,0,0,_,_,h=>absurd rfl h
 | _ :: _,0,j+1,_,_,_=>by simp [setT]
 | _ :: _,i+1,0,_,_,_=>by simp [setT]
 | x :: r,i+1,j+1,a,b,h=>by
  have:=L2 r i j a b (by omega);simp [setT,this]
theorem Av (e:List PV) (a b:Nat) (x y:PV) (h:a≠b):setT (setT e a x) b y=setT (setT e b y) a x:=L2 e a b x y h
theorem G7 (e0:List PV) (D:Nat->Bool) (i:Nat):∀ L:List (Nat×Nat×PV),(∀ x ∈ L,x.1≠i)->Bv e0 (DQ D i) L=Bv e0 D L
 | [],_=>rfl
 | (j,d,v) :: r,h=>by
  have hj:j≠i:=h (j,d,v) (by simp);have ih:=G7 e0 D i r (fun x hx=>h x (by simp [hx]));unfold Bv DQ;rw [beq_eq_false_iff_ne.2 hj,Aa2,show (fun j=>j == i || D j)=DQ D i from rfl,ih]
theorem B3 (e0:List PV) (D:Nat->Bool) (i d:Nat) (v:PV) (hD:D i=false):∀ L:List (Nat×Nat×PV),(i,d,v) ∈ L->L.Pairwise (fun x y=>x.1≠y.1/\x.2.1≠y.2.1)->setT (Bv e0 D L) d v=Bv e0 (DQ D i) L
 | [],h,_=>by simp at h
 | (j,d',v') :: r,h,hp=>by
  rw [Aa3] at hp;rcases Aa5.1 h with h | h
  · injection h with h1 h2
    injection h2 with h2 h3
    subst h1 h2 h3;have hs:=G7 e0 D i r (fun x hx=>Ne.symm (hp.1 x hx).1);show setT (if D i then _ else _) d v=if DQ D i i then _ else _
    rw [hD,hs,show DQ D i i=true from by unfold DQ;rw [beq_self_eq_true];rfl];rfl
  · have pM:=hp.1 _ h
    have ih:=B3 e0 D i d v hD r h hp.2;show setT (if D j then _ else _) d v=if DQ D i j then _ else _
    rw [show DQ D i j=D j from by unfold DQ;rw [beq_eq_false_iff_ne.2 pM.1,Aa2]];cases D j with
    | true=>
     simp only [if_true];rw [Av _ _ _ _ _ pM.2,ih]
    | false=>
     simp only [Bool.false_eq_true,if_false];exact ih
theorem G8 (e0:List PV) (D:Nat->Bool) (t:Nat):∀ L:List (Nat×Nat×PV),(∀ x ∈ L,x.2.1≠t)->getT (Bv e0 D L) t=getT e0 t
 | [],_=>rfl
 | (j,d,v) :: r,h=>by
  have ih:=G8 e0 D t r (fun x hx=>h x (by simp [hx]));have hd:d≠t:=h (j,d,v) (by simp);show getT (if D j then _ else _) t=_;cases D j with
  | true=>
   simp only [if_true];rw [Dc,if_neg (Ne.symm hd),ih]
  | false=>simpa using ih
theorem BU (e0:List PV) (D:Nat->Bool) (i d:Nat) (v:PV) (hD:D i=true):∀ L:List (Nat×Nat×PV),(i,d,v) ∈ L->L.Pairwise (fun x y=>x.1≠y.1/\x.2.1≠y.2.1)->getT (Bv e0 D L) d=v
 | [],h,_=>by simp at h
 | (j,d',v') :: r,h,hp=>by
  rw [Aa3] at hp;rcases Aa5.1 h with h | h
  · injection h with h1 h2
    injection h2 with h2 h3
    subst h1 h2 h3;show getT (if D i then _ else _) d=v;rw [hD,if_pos rfl,Dc,if_pos rfl]
  · have pM:=hp.1 _ h
    have ih:=BU e0 D i d v hD r h hp.2;show getT (if D j then _ else _) d=v;cases D j with
    | true=>
     simp only [if_true];rw [Dc,if_neg (Ne.symm pM.2),ih]
    | false=>simpa using ih
theorem B8 {D:Nat->Bool} {i j:Nat} (h:j≠i):DQ D i j=D j:=by unfold DQ;rw [beq_eq_false_iff_ne.2 h,Aa2]
theorem UZ {D:Nat->Bool} {i:Nat}:DQ D i i=true:=by unfold DQ;rw [beq_self_eq_true];rfl
section
variable {C:Cfg} {call:Cl} {ops:Array Oper} {e0:List PV} {L:List (Nat×Nat×PV)} {bxOf:(Nat->Bool)->List PBox}
theorem U0 (NK:∀ (D:Nat->Bool) (i:Nat) (o:Oper),ops[i]?=some o->D i=false->(∀ e ∈ o.after.toList,Aa0 .any e=true->D e.on=true)->(∀ j o,ops[j]?=some o->D j=true->∀ e ∈ o.after.toList,Aa0 .any e=true->D e.on=true)->o.guard=none/\∀ al,∃ al',Bp C call false al o ⟨Bv e0 D L,bxOf D⟩=some (.next ⟨Bv e0 (DQ D i) L,bxOf (DQ D i)⟩ al')) :
 ∀ (k:Nat) (acc l:List Nat),(∀ j o,ops[j]?=some o->acc.contains j=true->∀ e ∈ o.after.toList,Aa0 .any e=true->acc.contains e.on=true)->l ∈ Df ops k acc->∃ s,l=acc.reverse++s/\∀ al,evOps C call false ops (AR ops s) al ⟨Bv e0 (fun j=>acc.contains j) L,bxOf (fun j=>acc.contains j)⟩=some (.normal,⟨Bv e0 (fun j=>l.contains j) L,bxOf (fun j=>l.contains j)⟩)
 | 0,acc,l,_,h=>by
  simp only [Df,List.mem_singleton] at h;subst h;refine ⟨[],by simp,fun al=>?_⟩;have e:(fun j=>acc.reverse.contains j)=fun j=>acc.contains j:=by funext j;rw [Bool.eq_iff_iff];simp
  rw [e];rfl
 | k+1,acc,l,Mw,h=>by
  unfold Df at h;rw [List.mem_flatMap] at h;obtain ⟨i,hi,h⟩:=h;split at h
  rotate_left
  · simp at h
  rename_i hr;have h':=h;unfold Ka at hr;simp only [Bool.and_eq_true,Bool.not_eq_true'] at hr;obtain ⟨hn,hr⟩:=hr;split at hr
  rotate_left
  · cases hr
  rename_i o ho;rw [Aa1] at hr
  obtain ⟨hg,Ez⟩:=NK (fun j=>acc.contains j) i o ho hn (fun e he hb=>by
   have:=hr e he;rw [hb] at this;simpa using this) Mw
  have mv:∀ j o,ops[j]?=some o->(i :: acc).contains j=true->∀ e ∈ o.after.toList,Aa0 .any e=true->(i :: acc).contains e.on=true:=by
   intro j o' Ut hj e he hb;rw [Aa4] at hj |-;simp only [Bool.or_eq_true,beq_iff_eq] at hj |-;rcases hj with rfl | hj
   · rw [ho] at Ut
     injection Ut with Ut
     subst Ut;have:=hr e he;rw [hb] at this;exact .inr (by simpa using this)
   · exact .inr (Mw j o' Ut hj e he hb)
  obtain ⟨s,hs,Ih⟩:=U0 NK k (i :: acc) l mv h';refine ⟨i :: s,by rw [hs];simp,fun al=>?_⟩;obtain ⟨al',Ez⟩:=Ez al;have hp:AR ops (i :: s)=o :: AR ops s:=by unfold AR;rw [List.filterMap_cons,ho]
  rw [hp];unfold evOps;have hw:GA ops (Bv e0 (fun j=>acc.contains j) L) o=some true:=by unfold GA;rw [hg]
  simp only [hw,Ez];have e:DQ (fun j=>acc.contains j) i=fun j=>(i :: acc).contains j:=by funext j;unfold DQ;rw [Aa4]
  rw [e];exact Ih al'
theorem Q8 (hc:((BO ops).all fun l=>(List.range ops.size).all fun j=>l.contains j)=true) (Dz:(BO ops).isEmpty=false)
 (NK:∀ (D:Nat->Bool) (i:Nat) (o:Oper),ops[i]?=some o->D i=false->(∀ e ∈ o.after.toList,Aa0 .any e=true->D e.on=true)->(∀ j o,ops[j]?=some o->D j=true->∀ e ∈ o.after.toList,Aa0 .any e=true->D e.on=true)->o.guard=none/\∀ al,∃ al',Bp C call false al o ⟨Bv e0 D L,bxOf D⟩=some (.next ⟨Bv e0 (DQ D i) L,bxOf (DQ D i)⟩ al'))
 {st:St} (h0:st=⟨Bv e0 (fun _=>false) L,bxOf (fun _=>false)⟩) {r:St} (h1:∀ D:Nat->Bool,(∀ j,j < ops.size->D j=true)->⟨Bv e0 D L,bxOf D⟩=r):drawAll C call ops st=some (.normal,r):=by
 refine AV.2 ⟨fun e=>(by rw [e] at Dz;cases Dz),fun l hl=>?_⟩;obtain ⟨s,hs,Ih⟩:=U0 NK _ [] l (fun j o _ h=>by simp at h) hl;simp only [List.reverse_nil,List.nil_append] at hs;subst hs;rw [Aa1] at hc;have D4:=hc l hl;rw [Aa1] at D4;have h2:=h1 (fun j=>l.contains j) (fun j hj=>D4 j (List.mem_range.2 hj));have h3:=Ih [];rw [h2] at h3;have e:(fun j=>([]:List Nat).contains j)=fun _=>false:=by funext j;rfl
 rw [e,<- h0] at h3;rw [h3];rfl
end
end Go.HH
