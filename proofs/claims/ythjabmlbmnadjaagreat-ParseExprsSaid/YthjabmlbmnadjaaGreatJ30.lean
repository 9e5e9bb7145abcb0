/-
  What the law needs, packed: Ds.
-/
import Derived.Test.YthjabmlbmnadjaaGreatJ29
open Go.Region renaming binds->yW
open List renaming all_eq_true->yX,pairwise_cons->yZ,contains_cons->y0,mem_cons->y1
open Bool renaming false_or->yY
open Ne renaming symm->y2
namespace Go.HH
open Go
def AD (e0:List PV) (D:Nat->Bool):List (Nat×Nat×PV)->List PV
 | []=>e0
 | (i,d,v) :: r=>if D i then setT (AD e0 D r) d v else AD e0 D r
def C1 (D:Nat->Bool) (i:Nat):Nat->Bool:=fun j=>j == i || D j
theorem Nn:∀ (e:List PV) (i j:Nat) (a b:PV),i≠j->setT (setT e i a) j b=setT (setT e j b) i a
 | [],0,0,_,_,h=>absurd rfl h
 | [],0,j+1,a,b,_=>by simp [setT]
 | [],i+1,0,a,b,_=>by simp [setT]
 | [],i+1,j+1,a,b,h=>by
  have:=Nn [] i j a b (by omega);simp [setT,this]
 | _ :: _,0,0,_,_,h=>absurd rfl h
 | _ :: _,0,j+1,_,_,_=>by simp [setT]
 | _ :: _,i+1,0,_,_,_=>by simp [setT]
 | x :: r,i+1,j+1,a,b,h=>by
  have:=Nn r i j a b (by omega);simp [setT,this]
theorem Ar (e:List PV) (a b:Nat) (x y:PV) (h:a≠b):setT (setT e a x) b y=setT (setT e b y) a x:=Nn e a b x y h
theorem GD (e0:List PV) (D:Nat->Bool) (i:Nat):∀ L:List (Nat×Nat×PV),(∀ x ∈ L,x.1≠i)->AD e0 (C1 D i) L=AD e0 D L
 | [],_=>rfl
 | (j,d,v) :: r,h=>by
  have hj:j≠i:=h (j,d,v) (by simp);have ih:=GD e0 D i r (fun x hx=>h x (by simp [hx]));unfold AD C1;rw [beq_eq_false_iff_ne.2 hj,yY,show (fun j=>j == i || D j)=C1 D i from rfl,ih]
theorem AL (e0:List PV) (D:Nat->Bool) (i d:Nat) (v:PV) (hD:D i=false):∀ L:List (Nat×Nat×PV),(i,d,v) ∈ L->L.Pairwise (fun x y=>x.1≠y.1/\x.2.1≠y.2.1)->setT (AD e0 D L) d v=AD e0 (C1 D i) L
 | [],h,_=>by simp at h
 | (j,d',v') :: r,h,hp=>by
  rw [yZ] at hp;rcases y1.1 h with h | h
  · injection h with h1 h2
    injection h2 with h2 h3
    subst h1 h2 h3;have hs:=GD e0 D i r (fun x hx=>y2 (hp.1 x hx).1);show setT (if D i then _ else _) d v=if C1 D i i then _ else _
    rw [hD,hs,show C1 D i i=true from by unfold C1;rw [beq_self_eq_true];rfl];rfl
  · have oZ:=hp.1 _ h
    have ih:=AL e0 D i d v hD r h hp.2;show setT (if D j then _ else _) d v=if C1 D i j then _ else _
    rw [show C1 D i j=D j from by unfold C1;rw [beq_eq_false_iff_ne.2 oZ.1,yY]];cases D j with
    | true=>
     simp only [if_true];rw [Ar _ _ _ _ _ oZ.2,ih]
    | false=>
     simp only [Bool.false_eq_true,if_false];exact ih
theorem ED (e0:List PV) (D:Nat->Bool) (t:Nat):∀ L:List (Nat×Nat×PV),(∀ x ∈ L,x.2.1≠t)->getT (AD e0 D L) t=getT e0 t
 | [],_=>rfl
 | (j,d,v) :: r,h=>by
  have ih:=ED e0 D t r (fun x hx=>h x (by simp [hx]));have hd:d≠t:=h (j,d,v) (by simp);show getT (if D j then _ else _) t=_;cases D j with
  | true=>
   simp only [if_true];rw [Eb,if_neg (y2 hd),ih]
  | false=>simpa using ih
theorem Ba (e0:List PV) (D:Nat->Bool) (i d:Nat) (v:PV) (hD:D i=true):∀ L:List (Nat×Nat×PV),(i,d,v) ∈ L->L.Pairwise (fun x y=>x.1≠y.1/\x.2.1≠y.2.1)->getT (AD e0 D L) d=v
 | [],h,_=>by simp at h
 | (j,d',v') :: r,h,hp=>by
  rw [yZ] at hp;rcases y1.1 h with h | h
  · injection h with h1 h2
    injection h2 with h2 h3
    subst h1 h2 h3;show getT (if D i then _ else _) d=v;rw [hD,if_pos rfl,Eb,if_pos rfl]
  · have oZ:=hp.1 _ h
    have ih:=Ba e0 D i d v hD r h hp.2;show getT (if D j then _ else _) d=v;cases D j with
    | true=>
     simp only [if_true];rw [Eb,if_neg (y2 oZ.2),ih]
    | false=>simpa using ih
theorem A9 {D:Nat->Bool} {i j:Nat} (h:j≠i):C1 D i j=D j:=by unfold C1;rw [beq_eq_false_iff_ne.2 h,yY]
theorem HF {D:Nat->Bool} {i:Nat}:C1 D i i=true:=by unfold C1;rw [beq_self_eq_true];rfl
section
variable {C:Cfg} {call:C4} {ops:Array Oper} {e0:List PV} {L:List (Nat×Nat×PV)} {bxOf:(Nat->Bool)->List PBox}
theorem Wg (fE:∀ (D:Nat->Bool) (i:Nat) (o:Oper),ops[i]?=some o->D i=false->(∀ e ∈ o.after.toList,yW .any e=true->D e.on=true)->(∀ j o,ops[j]?=some o->D j=true->∀ e ∈ o.after.toList,yW .any e=true->D e.on=true)->o.guard=none/\∀ al,∃ al',BR C call false al o ⟨AD e0 D L,bxOf D⟩=some (.next ⟨AD e0 (C1 D i) L,bxOf (C1 D i)⟩ al')) :
 ∀ (k:Nat) (acc l:List Nat),(∀ j o,ops[j]?=some o->acc.contains j=true->∀ e ∈ o.after.toList,yW .any e=true->acc.contains e.on=true)->l ∈ EN ops k acc->∃ s,l=acc.reverse++s/\∀ al,evOps C call false ops (A' ops s) al ⟨AD e0 (fun j=>acc.contains j) L,bxOf (fun j=>acc.contains j)⟩=some (.normal,⟨AD e0 (fun j=>l.contains j) L,bxOf (fun j=>l.contains j)⟩)
 | 0,acc,l,_,h=>by
  simp only [EN,List.mem_singleton] at h;subst h;refine ⟨[],by simp,fun al=>?_⟩;have e:(fun j=>acc.reverse.contains j)=fun j=>acc.contains j:=by funext j;rw [Bool.eq_iff_iff];simp
  rw [e];rfl
 | k+1,acc,l,QE,h=>by
  unfold EN at h;rw [List.mem_flatMap] at h;obtain ⟨i,hi,h⟩:=h;split at h
  rotate_left
  · simp at h
  rename_i hr;have h':=h;unfold Nd at hr;simp only [Bool.and_eq_true,Bool.not_eq_true'] at hr;obtain ⟨hn,hr⟩:=hr;split at hr
  rotate_left
  · cases hr
  rename_i o ho;rw [yX] at hr
  obtain ⟨hg,Fq⟩:=fE (fun j=>acc.contains j) i o ho hn (fun e he hb=>by
   have:=hr e he;rw [hb] at this;simpa using this) QE
  have rV:∀ j o,ops[j]?=some o->(i :: acc).contains j=true->∀ e ∈ o.after.toList,yW .any e=true->(i :: acc).contains e.on=true:=by
   intro j o' dK hj e he hb;rw [y0] at hj |-;simp only [Bool.or_eq_true,beq_iff_eq] at hj |-;rcases hj with rfl | hj
   · rw [ho] at dK
     injection dK with dK
     subst dK;have:=hr e he;rw [hb] at this;exact .inr (by simpa using this)
   · exact .inr (QE j o' dK hj e he hb)
  obtain ⟨s,hs,N4⟩:=Wg fE k (i :: acc) l rV h';refine ⟨i :: s,by rw [hs];simp,fun al=>?_⟩;obtain ⟨al',Fq⟩:=Fq al;have hp:A' ops (i :: s)=o :: A' ops s:=by unfold A';rw [List.filterMap_cons,ho]
  rw [hp];unfold evOps;have hw:Is ops (AD e0 (fun j=>acc.contains j) L) o=some true:=by unfold Is;rw [hg]
  simp only [hw,Fq];have e:C1 (fun j=>acc.contains j) i=fun j=>(i :: acc).contains j:=by funext j;unfold C1;rw [y0]
  rw [e];exact N4 al'
theorem E0 (hc:((Cc ops).all fun l=>(List.range ops.size).all fun j=>l.contains j)=true) (DZ:(Cc ops).isEmpty=false)
 (fE:∀ (D:Nat->Bool) (i:Nat) (o:Oper),ops[i]?=some o->D i=false->(∀ e ∈ o.after.toList,yW .any e=true->D e.on=true)->(∀ j o,ops[j]?=some o->D j=true->∀ e ∈ o.after.toList,yW .any e=true->D e.on=true)->o.guard=none/\∀ al,∃ al',BR C call false al o ⟨AD e0 D L,bxOf D⟩=some (.next ⟨AD e0 (C1 D i) L,bxOf (C1 D i)⟩ al'))
 {st:St} (h0:st=⟨AD e0 (fun _=>false) L,bxOf (fun _=>false)⟩) {r:St} (h1:∀ D:Nat->Bool,(∀ j,j < ops.size->D j=true)->⟨AD e0 D L,bxOf D⟩=r):drawAll C call ops st=some (.normal,r):=by
 refine AN.2 ⟨fun e=>(by rw [e] at DZ;cases DZ),fun l hl=>?_⟩;obtain ⟨s,hs,N4⟩:=Wg fE _ [] l (fun j o _ h=>by simp at h) hl;simp only [List.reverse_nil,List.nil_append] at hs;subst hs;rw [yX] at hc;have FU:=hc l hl;rw [yX] at FU;have h2:=h1 (fun j=>l.contains j) (fun j hj=>FU j (List.mem_range.2 hj));have h3:=N4 [];rw [h2] at h3;have e:(fun j=>([]:List Nat).contains j)=fun _=>false:=by funext j;rfl
 rw [e,<- h0] at h3;rw [h3];rfl
end
end Go.HH
