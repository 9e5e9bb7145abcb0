/-
  What the law needs, packed: Ds.
-/
import Derived.Test.YtmiilonaehgplaaM29
namespace Go.HH
open Go
def setsD (e0:List PV) (D:Nat->Bool):List (Nat×Nat×PV)->List PV
 | []=>e0
 | (i,d,v) :: r=>if D i then setT (setsD e0 D r) d v else setsD e0 D r
def addD (D:Nat->Bool) (i:Nat):Nat->Bool:=fun j=>j == i || D j
theorem setT_swap0:∀ (e:List PV) (i j:Nat) (a b:PV),i≠j->setT (setT e i a) j b=setT (setT e j b) i a
 | [],0,0,_,_,h=>absurd rfl h
 | [],0,j+1,a,b,_=>by simp [setT]
 | [],i+1,0,a,b,_=>by simp [setT]
 | [],i+1,j+1,a,b,h=>by
  have:=setT_swap0 [] i j a b (by omega)
  simp [setT,this]
 | _ :: _,0,0,_,_,h=>absurd rfl h
 | _ :: _,0,j+1,_,_,_=>by simp [setT]
 | _ :: _,i+1,0,_,_,_=>by simp [setT]
 | x :: r,i+1,j+1,a,b,h=>by
  have:=setT_swap0 r i j a b (by omega)
  simp [setT,this]
theorem setT_swap (e:List PV) (a b:Nat) (x y:PV) (h:a≠b):setT (setT e a x) b y=setT (setT e b y) a x:=setT_swap0 e a b x y h
theorem setsD_skip (e0:List PV) (D:Nat->Bool) (i:Nat):∀ L:List (Nat×Nat×PV),(∀ x ∈ L,x.1≠i)->setsD e0 (addD D i) L=setsD e0 D L
 | [],_=>rfl
 | (j,d,v) :: r,h=>by
  have hj:j≠i:=h (j,d,v) (by simp)
  have ih:=setsD_skip e0 D i r (fun x hx=>h x (by simp [hx]))
  unfold setsD addD
  rw [beq_eq_false_iff_ne.2 hj,Bool.false_or,show (fun j=>j == i || D j)=addD D i from rfl,ih]
theorem setsD_add (e0:List PV) (D:Nat->Bool) (i d:Nat) (v:PV) (hD:D i=false):∀ L:List (Nat×Nat×PV),(i,d,v) ∈ L->L.Pairwise (fun x y=>x.1≠y.1∧x.2.1≠y.2.1)->setT (setsD e0 D L) d v=setsD e0 (addD D i) L
 | [],h,_=>by simp at h
 | (j,d',v') :: r,h,hp=>by
  rw [List.pairwise_cons] at hp
  rcases List.mem_cons.1 h with h | h
  · injection h with h1 h2
    injection h2 with h2 h3
    subst h1 h2 h3
    have hs:=setsD_skip e0 D i r (fun x hx=>Ne.symm (hp.1 x hx).1)
    show setT (if D i then _ else _) d v=if addD D i i then _ else _
    rw [hD,hs,show addD D i i=true from by unfold addD;rw [beq_self_eq_true];rfl]
    rfl
  · have hji:=hp.1 _ h
    have ih:=setsD_add e0 D i d v hD r h hp.2
    show setT (if D j then _ else _) d v=if addD D i j then _ else _
    rw [show addD D i j=D j from by unfold addD;rw [beq_eq_false_iff_ne.2 hji.1,Bool.false_or]]
    cases D j with
    | true=>
     simp only [if_true]
     rw [setT_swap _ _ _ _ _ hji.2,ih]
    | false=>
     simp only [Bool.false_eq_true,if_false]
     exact ih
theorem getT_off (e0:List PV) (D:Nat->Bool) (t:Nat):∀ L:List (Nat×Nat×PV),(∀ x ∈ L,x.2.1≠t)->getT (setsD e0 D L) t=getT e0 t
 | [],_=>rfl
 | (j,d,v) :: r,h=>by
  have ih:=getT_off e0 D t r (fun x hx=>h x (by simp [hx]))
  have hd:d≠t:=h (j,d,v) (by simp)
  show getT (if D j then _ else _) t=_
  cases D j with
  | true=>
   simp only [if_true]
   rw [getT_setT,if_neg (Ne.symm hd),ih]
  | false=>simpa using ih
theorem getT_on (e0:List PV) (D:Nat->Bool) (i d:Nat) (v:PV) (hD:D i=true):∀ L:List (Nat×Nat×PV),(i,d,v) ∈ L->L.Pairwise (fun x y=>x.1≠y.1∧x.2.1≠y.2.1)->getT (setsD e0 D L) d=v
 | [],h,_=>by simp at h
 | (j,d',v') :: r,h,hp=>by
  rw [List.pairwise_cons] at hp
  rcases List.mem_cons.1 h with h | h
  · injection h with h1 h2
    injection h2 with h2 h3
    subst h1 h2 h3
    show getT (if D i then _ else _) d=v
    rw [hD,if_pos rfl,getT_setT,if_pos rfl]
  · have hji:=hp.1 _ h
    have ih:=getT_on e0 D i d v hD r h hp.2
    show getT (if D j then _ else _) d=v
    cases D j with
    | true=>
     simp only [if_true]
     rw [getT_setT,if_neg (Ne.symm hji.2),ih]
    | false=>simpa using ih
theorem addD_ne {D:Nat->Bool} {i j:Nat} (h:j≠i):addD D i j=D j:=by unfold addD;rw [beq_eq_false_iff_ne.2 h,Bool.false_or]
theorem addD_self {D:Nat->Bool} {i:Nat}:addD D i i=true:=by unfold addD;rw [beq_self_eq_true];rfl
section
variable {C:Cfg} {call:CallT} {ops:Array Oper} {e0:List PV} {L:List (Nat×Nat×PV)} {bxOf:(Nat->Bool)->List PBox}
theorem go_states (hstep:∀ (D:Nat->Bool) (i:Nat) (o:Oper),ops[i]?=some o->D i=false->(∀ e ∈ o.after.toList,Region.binds .any e=true->D e.on=true)->(∀ j o,ops[j]?=some o->D j=true->∀ e ∈ o.after.toList,Region.binds .any e=true->D e.on=true)->o.guard=none∧∀ al,∃ al',stepOp C call false al o ⟨setsD e0 D L,bxOf D⟩=some (.next ⟨setsD e0 (addD D i) L,bxOf (addD D i)⟩ al')) :
 ∀ (k:Nat) (acc l:List Nat),(∀ j o,ops[j]?=some o->acc.contains j=true->∀ e ∈ o.after.toList,Region.binds .any e=true->acc.contains e.on=true)->l ∈ orderGo ops k acc->∃ s,l=acc.reverse++s∧∀ al,evOps C call false ops (pickOps ops s) al ⟨setsD e0 (fun j=>acc.contains j) L,bxOf (fun j=>acc.contains j)⟩=some (.normal,⟨setsD e0 (fun j=>l.contains j) L,bxOf (fun j=>l.contains j)⟩)
 | 0,acc,l,_,h=>by
  simp only [orderGo,List.mem_singleton] at h
  subst h
  refine ⟨[],by simp,fun al=>?_⟩
  have e:(fun j=>acc.reverse.contains j)=fun j=>acc.contains j:=by funext j;rw [Bool.eq_iff_iff];simp
  rw [e]
  rfl
 | k+1,acc,l,hcl,h=>by
  unfold orderGo at h
  rw [List.mem_flatMap] at h
  obtain ⟨i,hi,h⟩:=h
  split at h
  rotate_left
  · simp at h
  rename_i hr
  have h':=h
  unfold readyB at hr
  simp only [Bool.and_eq_true,Bool.not_eq_true'] at hr
  obtain ⟨hn,hr⟩:=hr
  split at hr
  rotate_left
  · cases hr
  rename_i o ho
  rw [List.all_eq_true] at hr
  obtain ⟨hg,hst⟩:=hstep (fun j=>acc.contains j) i o ho hn (fun e he hb=>by
   have:=hr e he
   rw [hb] at this
   simpa using this) hcl
  have hcl':∀ j o,ops[j]?=some o->(i :: acc).contains j=true->∀ e ∈ o.after.toList,Region.binds .any e=true->(i :: acc).contains e.on=true:=by
   intro j o' ho' hj e he hb
   rw [List.contains_cons] at hj ⊢
   simp only [Bool.or_eq_true,beq_iff_eq] at hj ⊢
   rcases hj with rfl | hj
   · rw [ho] at ho'
     injection ho' with ho'
     subst ho'
     have:=hr e he
     rw [hb] at this
     exact .inr (by simpa using this)
   · exact .inr (hcl j o' ho' hj e he hb)
  obtain ⟨s,hs,hev⟩:=go_states hstep k (i :: acc) l hcl' h'
  refine ⟨i :: s,by rw [hs];simp,fun al=>?_⟩
  obtain ⟨al',hst⟩:=hst al
  have hp:pickOps ops (i :: s)=o :: pickOps ops s:=by unfold pickOps;rw [List.filterMap_cons,ho]
  rw [hp]
  unfold evOps
  have hw:wantP ops (setsD e0 (fun j=>acc.contains j) L) o=some true:=by unfold wantP;rw [hg]
  simp only [hw,hst]
  have e:addD (fun j=>acc.contains j) i=fun j=>(i :: acc).contains j:=by funext j;unfold addD;rw [List.contains_cons]
  rw [e]
  exact hev al'
theorem drawAll_states (hc:((orders ops).all fun l=>(List.range ops.size).all fun j=>l.contains j)=true) (hne:(orders ops).isEmpty=false)
 (hstep:∀ (D:Nat->Bool) (i:Nat) (o:Oper),ops[i]?=some o->D i=false->(∀ e ∈ o.after.toList,Region.binds .any e=true->D e.on=true)->(∀ j o,ops[j]?=some o->D j=true->∀ e ∈ o.after.toList,Region.binds .any e=true->D e.on=true)->o.guard=none∧∀ al,∃ al',stepOp C call false al o ⟨setsD e0 D L,bxOf D⟩=some (.next ⟨setsD e0 (addD D i) L,bxOf (addD D i)⟩ al'))
 {st:St} (h0:st=⟨setsD e0 (fun _=>false) L,bxOf (fun _=>false)⟩) {r:St} (h1:∀ D:Nat->Bool,(∀ j,j < ops.size->D j=true)->⟨setsD e0 D L,bxOf D⟩=r):drawAll C call ops st=some (.normal,r):=by
 refine drawAll_iff.2 ⟨fun e=>(by rw [e] at hne;cases hne),fun l hl=>?_⟩
 obtain ⟨s,hs,hev⟩:=go_states hstep _ [] l (fun j o _ h=>by simp at h) hl
 simp only [List.reverse_nil,List.nil_append] at hs
 subst hs
 rw [List.all_eq_true] at hc
 have hl':=hc l hl
 rw [List.all_eq_true] at hl'
 have h2:=h1 (fun j=>l.contains j) (fun j hj=>hl' j (List.mem_range.2 hj))
 have h3:=hev []
 rw [h2] at h3
 have e:(fun j=>([]:List Nat).contains j)=fun _=>false:=by funext j;rfl
 rw [e,<- h0] at h3
 rw [h3]
 rfl
end
end Go.HH
