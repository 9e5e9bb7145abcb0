/-
  What the law needs, packed: Order.
-/
import Derived.Test.YthjabmlbmnadjaaGreatJ20
open Classical renaming byContradiction->yW
open Go.Region renaming binds->yX,linearise->yY,Mode->y7
open List renaming nodup_cons->yZ,range->y3,all_eq_true->y6,mem_cons->y8
open Array renaming getElem?_eq_getElem->y0,getD->y1,all_toList->y5
open Option renaming getD_some->y2,map_some->y4
namespace Go.HH
open Go Go.RowKit
section
variable {m:y7} {ops:Array Oper}
def Ec (m:y7) (ops:Array Oper):List Nat->Prop
 | []=>True
 | i :: acc=>i < ops.size/\i ∉ acc/\(∀ o,ops[i]?=some o->∀ e ∈ o.after.toList,yX m e=true->e.on ∈ acc)/\Ec m ops acc
theorem Ec.nodup:∀ {l:List Nat},Ec m ops l->l.Nodup
 | [],_=>List.nodup_nil
 | _ :: _,h=>yZ.2 ⟨h.2.1,h.2.2.2.nodup⟩
theorem Ec.lt:∀ {l:List Nat},Ec m ops l->∀ i ∈ l,i < ops.size
 | [],_,i,hi=>by simp at hi
 | j :: l,h,i,hi=>by
  rcases y8.1 hi with rfl | hi
  · exact h.1
  · exact h.2.2.2.lt i hi
theorem length_le_of_subset:∀ {l l':List Nat},l.Nodup->(∀ i ∈ l,i ∈ l')->l.length<=l'.length
 | [],l',_,_=>Nat.zero_le _
 | i :: r,l',h,hs=>by
  have hi:i ∈ l':=hs i (by simp);have h1:=yZ.1 h
  have:=length_le_of_subset (l:=r) (l':=l'.erase i) h1.2 (fun j hj=>by
   have DZ:j≠i:=by rintro rfl;exact h1.1 hj
   exact (List.mem_erase_of_ne DZ).2 (hs j (by simp [hj])))
  rw [List.length_erase_of_mem hi] at this;have iy:0 < l'.length:=List.length_pos_of_mem hi;simp only [List.length_cons];omega
theorem nodup_lt_length {l:List Nat} {n:Nat} (h:l.Nodup) (hl:∀ i ∈ l,i < n):l.length<=n:=by
 have:=length_le_of_subset (l':=y3 n) h (fun i hi=>by simpa using hl i hi);simpa using this
theorem Lb {l:List Nat} {n:Nat} (h:l.Nodup) (hl:∀ i ∈ l,i < n) (hn:l.length=n):∀ i,i < n->i ∈ l:=by
 intro i hi;refine yW fun HM=>?_
 have:=nodup_lt_length (l:=i :: l) (n:=n) (yZ.2 ⟨HM,h⟩) (fun j hj=>by
  rcases y8.1 hj with rfl | hj
  · exact hi
  · exact hl j hj)
 simp at this;omega
theorem R' (r:Nat->Nat) {n:Nat} {acc:List Nat} (h:∃ i,i < n/\i ∉ acc):∃ i,i < n/\i ∉ acc/\∀ j,j < n->j ∉ acc->r i<=r j:=by
 have key:∀ k,(∃ i,i < n/\i ∉ acc/\r i<=k)->∃ i,i < n/\i ∉ acc/\∀ j,j < n->j ∉ acc->r i<=r j:=by
  intro k
  induction k with
  | zero=>rintro ⟨i,h1,h2,h3⟩;exact ⟨i,h1,h2,fun j _ _=>by omega⟩
  | succ k ih=>
   rintro ⟨i,h1,h2,h3⟩
   by_cases hx:∃ j,j < n/\j ∉ acc/\r j<=k
   · exact ih hx
   · refine ⟨i,h1,h2,fun j a b=>?_⟩
     rcases Nat.lt_or_ge (r j) (r i) with Bq | Mg
     · exact absurd ⟨j,a,b,by omega⟩ hx
     · exact Mg
 obtain ⟨i,h1,h2⟩:=h;exact key (r i) ⟨i,h1,h2,Nat.le_refl _⟩
theorem Of (r:Nat->Nat) (hr:∀ i o,ops[i]?=some o->∀ e ∈ o.after.toList,yX m e=true->r e.on < r i/\e.on < ops.size) :
 ∀ (fuel t:Nat) (listed:Array Bool) (acc:List Nat),Ec m ops acc->listed.size=ops.size->(∀ i,i < ops.size->(listed.getD i true=true↔i ∈ acc))->acc.length+fuel=ops.size ->
  ∃ acc',yY.go m ops fuel t listed acc=acc'.reverse/\Ec m ops acc'/\acc'.length=ops.size
 | 0,t,listed,acc,hg,_,_,hl=>⟨acc,rfl,hg,by omega⟩
 | fuel+1,t,listed,acc,hg,hs,vm,hl=>by
  unfold yY.go;simp only;generalize sW:(y3 ops.size).filter (fun i=>!listed.getD i true && ((ops[i]?).map (·.after.all fun e=>!yX m e || listed.getD e.on false)).getD false)=rs
  have N2:∀ i,i ∈ rs↔i < ops.size/\i ∉ acc/\∀ o,ops[i]?=some o->∀ e ∈ o.after.toList,yX m e=true->listed.getD e.on false=true:=by
   intro i;rw [<- sW];simp only [List.mem_filter,List.mem_range,Bool.and_eq_true,Bool.not_eq_true'];constructor
   · rintro ⟨h1,h2,h3⟩
     refine ⟨h1,fun hm=>?_,fun o ho e he hb=>?_⟩
     · rw [(vm i h1).2 hm] at h2;cases h2
     · rw [ho] at h3
       simp only [y4,y2] at h3;rw [<- y5,y6] at h3;have:=h3 e he;simpa [hb] using this
   · rintro ⟨h1,h2,h3⟩
     refine ⟨h1,?_,?_⟩
     · cases hx:listed.getD i true with
       | false=>rfl
       | true=>exact absurd ((vm i h1).1 hx) h2
     · rw [y0 h1]
       simp only [y4,y2];rw [<- y5,y6];intro e he;cases hb:yX m e with
       | false=>rfl
       | true=>simpa using h3 _ (y0 h1) e he hb
  have hlisted:∀ j,j < ops.size->(listed.getD j false=true↔j ∈ acc):=by
   intro j hj;rw [<- vm j hj];simp [y1,hs,hj]
  have DZ:rs≠[]:=by
   have hex:∃ i,i < ops.size/\i ∉ acc:=by
    refine yW fun HM=>?_;have FA:∀ i,i < ops.size->i ∈ acc:=fun i hi=>yW fun hx=>HM ⟨i,hi,hx⟩;have:=length_le_of_subset (l:=y3 ops.size) (l':=acc) List.nodup_range (fun i hi=>FA i (by simpa using hi));simp at this;omega
   obtain ⟨i,h1,h2,h3⟩:=R' r hex
   have:i ∈ rs:=by
    rw [N2];refine ⟨h1,h2,fun o ho e he hb=>?_⟩;obtain ⟨g1,g2⟩:=hr i o ho e he hb;rw [hlisted e.on g2];refine yW fun hx=>?_;have:=h3 e.on g2 hx;omega
   intro h;rw [h] at this;cases this
  have iy:0 < rs.length:=List.length_pos_iff.2 DZ;have Bq:t % rs.length < rs.length:=Nat.mod_lt _ iy;rw [List.getElem?_eq_getElem Bq];simp only;generalize hi:rs[t % rs.length]=i;have him:i ∈ rs:=by rw [<- hi];exact List.getElem_mem Bq
  obtain ⟨g1,g2,g3⟩:=(N2 i).1 him;refine Of r hr fuel _ _ (i :: acc) ⟨g1,g2,fun o ho e he hb=>(hlisted e.on (hr i o ho e he hb).2).1 (g3 o ho e he hb),hg⟩ (by simp [hs]) (fun j hj=>?_) (by simp;omega);by_cases oZ:j=i
  · subst oZ
    simp [y1,hs,hj]
  · have:=vm j hj
    have e1:(listed.setIfInBounds i true).getD j true=listed.getD j true:=by
     simp only [Array.getD_eq_getD_getElem?,Array.getElem?_setIfInBounds];rw [if_neg (Ne.symm oZ)]
    rw [e1,this];simp [oZ]
theorem Ed (r:Nat->Nat) (hr:∀ i o,ops[i]?=some o->∀ e ∈ o.after.toList,yX m e=true->r e.on < r i/\e.on < ops.size) (t:Nat) :
 ∃ acc',yY m ops t=acc'.reverse/\Ec m ops acc'/\acc'.length=ops.size:=
 Of r hr ops.size t _ [] trivial (by simp) (fun i hi=>by simp [y1,hi]) (by simp)
end
end Go.HH
