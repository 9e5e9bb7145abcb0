/-
  What the law needs, packed: Order.
-/
import Derived.Test.YthjcaihemgllaaaGreatDoorJ20
open Classical renaming byContradiction->Aa0
open Go.Region renaming binds->Aa1,linearise->Aa2,Mode->Aab
open List renaming nodup_cons->Aa3,range->Aa7,all_eq_true->Aaa,mem_cons->Aac
open Array renaming getElem?_eq_getElem->Aa4,getD->Aa5,all_toList->Aa9
open Option renaming getD_some->Aa6,map_some->Aa8
namespace Go.HH
open Go Go.RowKit
section
variable {m:Aab} {ops:Array Oper}
def DB (m:Aab) (ops:Array Oper):List Nat->Prop
 | []=>True
 | i :: acc=>i < ops.size/\i ∉ acc/\(∀ o,ops[i]?=some o->∀ e ∈ o.after.toList,Aa1 m e=true->e.on ∈ acc)/\DB m ops acc
theorem DB.nodup:∀ {l:List Nat},DB m ops l->l.Nodup
 | [],_=>List.nodup_nil
 | _ :: _,h=>Aa3.2 ⟨h.2.1,h.2.2.2.nodup⟩
theorem DB.lt:∀ {l:List Nat},DB m ops l->∀ i ∈ l,i < ops.size
 | [],_,i,hi=>by simp at hi
 | j :: l,h,i,hi=>by
  rcases Aac.1 hi with rfl | hi
  · exact h.1
  · exact h.2.2.2.lt i hi
theorem length_le_of_subset:∀ {l l':List Nat},l.Nodup->(∀ i ∈ l,i ∈ l')->l.length<=l'.length
 | [],l',_,_=>Nat.zero_le _
 | i :: r,l',h,hs=>by
  have hi:i ∈ l':=hs i (by simp);have h1:=Aa3.1 h
  have:=length_le_of_subset (l:=r) (l':=l'.erase i) h1.2 (fun j hj=>by
   have Dz:j≠i:=by rintro rfl;exact h1.1 hj
   exact (List.mem_erase_of_ne Dz).2 (hs j (by simp [hj])))
  rw [List.length_erase_of_mem hi] at this;have gW:0 < l'.length:=List.length_pos_of_mem hi;simp only [List.length_cons];omega
theorem nodup_lt_length {l:List Nat} {n:Nat} (h:l.Nodup) (hl:∀ i ∈ l,i < n):l.length<=n:=by
 have:=length_le_of_subset (l':=Aa7 n) h (fun i hi=>by simpa using hl i hi);simpa using this
theorem Kf {l:List Nat} {n:Nat} (h:l.Nodup) (hl:∀ i ∈ l,i < n) (hn:l.length=n):∀ i,i < n->i ∈ l:=by
 intro i hi;refine Aa0 fun GU=>?_
 have:=nodup_lt_length (l:=i :: l) (n:=n) (Aa3.2 ⟨GU,h⟩) (fun j hj=>by
  rcases Aac.1 hj with rfl | hj
  · exact hi
  · exact hl j hj)
 simp at this;omega
theorem Q1 (r:Nat->Nat) {n:Nat} {acc:List Nat} (h:∃ i,i < n/\i ∉ acc):∃ i,i < n/\i ∉ acc/\∀ j,j < n->j ∉ acc->r i<=r j:=by
 have key:∀ k,(∃ i,i < n/\i ∉ acc/\r i<=k)->∃ i,i < n/\i ∉ acc/\∀ j,j < n->j ∉ acc->r i<=r j:=by
  intro k
  induction k with
  | zero=>rintro ⟨i,h1,h2,h3⟩;exact ⟨i,h1,h2,fun j _ _=>by omega⟩
  | succ k ih=>
   rintro ⟨i,h1,h2,h3⟩
   by_cases hx:∃ j,j < n/\j ∉ acc/\r j<=k
   · exact ih hx
   · refine ⟨i,h1,h2,fun j a b=>?_⟩
     rcases Nat.lt_or_ge (r j) (r i) with Bz | QJ
     · exact absurd ⟨j,a,b,by omega⟩ hx
     · exact QJ
 obtain ⟨i,h1,h2⟩:=h;exact key (r i) ⟨i,h1,h2,Nat.le_refl _⟩
theorem ME (r:Nat->Nat) (hr:∀ i o,ops[i]?=some o->∀ e ∈ o.after.toList,Aa1 m e=true->r e.on < r i/\e.on < ops.size) :
 ∀ (fuel t:Nat) (listed:Array Bool) (acc:List Nat),DB m ops acc->listed.size=ops.size->(∀ i,i < ops.size->(listed.getD i true=true↔i ∈ acc))->acc.length+fuel=ops.size ->
  ∃ acc',Aa2.go m ops fuel t listed acc=acc'.reverse/\DB m ops acc'/\acc'.length=ops.size
 | 0,t,listed,acc,hg,_,_,hl=>⟨acc,rfl,hg,by omega⟩
 | fuel+1,t,listed,acc,hg,hs,xS,hl=>by
  unfold Aa2.go;simp only;generalize vo:(Aa7 ops.size).filter (fun i=>!listed.getD i true && ((ops[i]?).map (·.after.all fun e=>!Aa1 m e || listed.getD e.on false)).getD false)=rs
  have IP:∀ i,i ∈ rs↔i < ops.size/\i ∉ acc/\∀ o,ops[i]?=some o->∀ e ∈ o.after.toList,Aa1 m e=true->listed.getD e.on false=true:=by
   intro i;rw [<- vo];simp only [List.mem_filter,List.mem_range,Bool.and_eq_true,Bool.not_eq_true'];constructor
   · rintro ⟨h1,h2,h3⟩
     refine ⟨h1,fun hm=>?_,fun o ho e he hb=>?_⟩
     · rw [(xS i h1).2 hm] at h2;cases h2
     · rw [ho] at h3
       simp only [Aa8,Aa6] at h3;rw [<- Aa9,Aaa] at h3;have:=h3 e he;simpa [hb] using this
   · rintro ⟨h1,h2,h3⟩
     refine ⟨h1,?_,?_⟩
     · cases hx:listed.getD i true with
       | false=>rfl
       | true=>exact absurd ((xS i h1).1 hx) h2
     · rw [Aa4 h1]
       simp only [Aa8,Aa6];rw [<- Aa9,Aaa];intro e he;cases hb:Aa1 m e with
       | false=>rfl
       | true=>simpa using h3 _ (Aa4 h1) e he hb
  have hlisted:∀ j,j < ops.size->(listed.getD j false=true↔j ∈ acc):=by
   intro j hj;rw [<- xS j hj];simp [Aa5,hs,hj]
  have Dz:rs≠[]:=by
   have hex:∃ i,i < ops.size/\i ∉ acc:=by
    refine Aa0 fun GU=>?_;have D1:∀ i,i < ops.size->i ∈ acc:=fun i hi=>Aa0 fun hx=>GU ⟨i,hi,hx⟩;have:=length_le_of_subset (l:=Aa7 ops.size) (l':=acc) List.nodup_range (fun i hi=>D1 i (by simpa using hi));simp at this;omega
   obtain ⟨i,h1,h2,h3⟩:=Q1 r hex
   have:i ∈ rs:=by
    rw [IP];refine ⟨h1,h2,fun o ho e he hb=>?_⟩;obtain ⟨g1,g2⟩:=hr i o ho e he hb;rw [hlisted e.on g2];refine Aa0 fun hx=>?_;have:=h3 e.on g2 hx;omega
   intro h;rw [h] at this;cases this
  have gW:0 < rs.length:=List.length_pos_iff.2 Dz;have Bz:t % rs.length < rs.length:=Nat.mod_lt _ gW;rw [List.getElem?_eq_getElem Bz];simp only;generalize hi:rs[t % rs.length]=i;have him:i ∈ rs:=by rw [<- hi];exact List.getElem_mem Bz
  obtain ⟨g1,g2,g3⟩:=(IP i).1 him;refine ME r hr fuel _ _ (i :: acc) ⟨g1,g2,fun o ho e he hb=>(hlisted e.on (hr i o ho e he hb).2).1 (g3 o ho e he hb),hg⟩ (by simp [hs]) (fun j hj=>?_) (by simp;omega);by_cases pM:j=i
  · subst pM
    simp [Aa5,hs,hj]
  · have:=xS j hj
    have e1:(listed.setIfInBounds i true).getD j true=listed.getD j true:=by
     simp only [Array.getD_eq_getD_getElem?,Array.getElem?_setIfInBounds];rw [if_neg (Ne.symm pM)]
    rw [e1,this];simp [pM]
theorem DC (r:Nat->Nat) (hr:∀ i o,ops[i]?=some o->∀ e ∈ o.after.toList,Aa1 m e=true->r e.on < r i/\e.on < ops.size) (t:Nat) :
 ∃ acc',Aa2 m ops t=acc'.reverse/\DB m ops acc'/\acc'.length=ops.size:=
 ME r hr ops.size t _ [] trivial (by simp) (fun i hi=>by simp [Aa5,hi]) (by simp)
end
end Go.HH
