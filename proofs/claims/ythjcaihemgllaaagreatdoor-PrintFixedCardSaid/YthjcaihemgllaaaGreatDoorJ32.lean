/-
  What the law needs, packed: Dl.
-/
import Derived.Test.YthjcaihemgllaaaGreatDoorJ31
open Go.Region renaming binds->Aa0
namespace Go.HH
open Go
section
variable {C:Cfg} {call:Cl} {ops:Array Oper} {stOf:List Nat->St}
def V0 (C:Cfg) (call:Cl) (ops:Array Oper) (stOf:List Nat->St):Prop:=
 ∀ (acc:List Nat) (i:Nat) (o:Oper),ops[i]?=some o->acc.contains i=false->(∀ e ∈ o.after.toList,Aa0 .any e=true->acc.contains e.on=true) ->
  (∀ j o,ops[j]?=some o->acc.contains j=true->∀ e ∈ o.after.toList,Aa0 .any e=true->acc.contains e.on=true)->o.guard=none/\∀ al,∃ al',Bp C call false al o (stOf acc)=some (.next (stOf (i :: acc)) al')
theorem cx (NK:V0 C call ops stOf):∀ (k:Nat) (acc l:List Nat),(∀ j o,ops[j]?=some o->acc.contains j=true->∀ e ∈ o.after.toList,Aa0 .any e=true->acc.contains e.on=true)->l ∈ Df ops k acc ->
 ∃ s,l=acc.reverse++s/\∀ al,evOps C call false ops (AR ops s) al (stOf acc)=some (.normal,stOf l.reverse)
 | 0,acc,l,_,h=>by
  simp only [Df,List.mem_singleton] at h;subst h;refine ⟨[],by simp,fun al=>?_⟩;rw [List.reverse_reverse];rfl
 | k+1,acc,l,Mw,h=>by
  unfold Df at h;rw [List.mem_flatMap] at h;obtain ⟨i,hi,h⟩:=h;split at h
  rotate_left
  · simp at h
  rename_i hr;have h':=h;unfold Ka at hr;simp only [Bool.and_eq_true,Bool.not_eq_true'] at hr;obtain ⟨hn,hr⟩:=hr;split at hr
  rotate_left
  · cases hr
  rename_i o ho;rw [List.all_eq_true] at hr
  obtain ⟨hg,Ez⟩:=NK acc i o ho hn (fun e he hb=>by
   have:=hr e he;rw [hb] at this;simpa using this) Mw
  have mv:∀ j o,ops[j]?=some o->(i :: acc).contains j=true->∀ e ∈ o.after.toList,Aa0 .any e=true->(i :: acc).contains e.on=true:=by
   intro j o' Ut hj e he hb;rw [List.contains_cons] at hj |-;simp only [Bool.or_eq_true,beq_iff_eq] at hj |-;rcases hj with rfl | hj
   · rw [ho] at Ut
     injection Ut with Ut
     subst Ut;have:=hr e he;rw [hb] at this;exact .inr (by simpa using this)
   · exact .inr (Mw j o' Ut hj e he hb)
  obtain ⟨s,hs,Ih⟩:=cx NK k (i :: acc) l mv h';refine ⟨i :: s,by rw [hs];simp,fun al=>?_⟩;obtain ⟨al',Ez⟩:=Ez al;have hp:AR ops (i :: s)=o :: AR ops s:=by unfold AR;rw [List.filterMap_cons,ho]
  rw [hp];unfold evOps;have hw:GA ops (stOf acc).env o=some true:=by unfold GA;rw [hg]
  simp only [hw,Ez];exact Ih al'
theorem Tl (Dz:(BO ops).isEmpty=false) (NK:V0 C call ops stOf) {r1 r2:St}
 (h1:∀ l ∈ BO ops,stOf l.reverse=r1\/stOf l.reverse=r2) (uD:Eqv (stOf []).bx.length r1 r2) (h21:Eqv (stOf []).bx.length r2 r1) :
 drawAll C call ops (stOf [])=some (.normal,r1)\/drawAll C call ops (stOf [])=some (.normal,r2):=by
 have Ih:∀ l ∈ BO ops,DM (evOps C call false ops (AR ops l) [] (stOf []))=some (.normal,stOf l.reverse):=fun l hl=>by
  obtain ⟨s,hs,Ih⟩:=cx NK _ [] l (fun j o _ h=>by simp at h) hl;simp only [List.reverse_nil,List.nil_append] at hs;subst hs;rw [Ih []];rfl
 cases ho:BO ops with
 | nil=>rw [ho] at Dz;cases Dz
 | cons l0 ls=>
  rw [ho] at h1 Ih
  have key:∀ r,stOf l0.reverse=r->(∀ l ∈ ls,stOf l.reverse=r\/Eqv (stOf []).bx.length (stOf l.reverse) r)->drawAll C call ops (stOf [])=some (.normal,r):=fun r hr hl=>by
   refine Gi.2 ⟨l0,ls,ho,by rw [Ih l0 (by simp),hr],fun l hm=>?_⟩;rw [Ih l (by simp [hm])];rcases hl l hm with e | e
   · exact .inl (by rw [e])
   · exact .inr ⟨_,rfl,rfl,e⟩
  rcases h1 l0 (by simp) with e | e
  · refine .inl (key r1 e fun l hm=>?_)
    rcases h1 l (by simp [hm]) with x | x
    · exact .inl x
    · rw [x];exact .inr h21
  · refine .inr (key r2 e fun l hm=>?_)
    rcases h1 l (by simp [hm]) with x | x
    · rw [x];exact .inr uD
    · exact .inl x
end
end Go.HH
