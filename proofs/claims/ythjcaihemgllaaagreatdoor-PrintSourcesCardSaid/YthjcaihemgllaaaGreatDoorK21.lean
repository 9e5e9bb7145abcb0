/-
  What the law needs, packed: Order.
-/
import Derived.Test.YthjcaihemgllaaaGreatDoorK20
open Classical renaming byContradiction->Aau
open Go.Region renaming binds->Aav,linearise->Aaw,Mode->Ab5
open List renaming nodup_cons->Aax,range->Ab1,all_eq_true->Ab4,mem_cons->Ab6
open Array renaming getElem?_eq_getElem->Aay,getD->Aaz,all_toList->Ab3
open Option renaming getD_some->Ab0,map_some->Ab2
namespace Go.HH
open Go Go.RowKit
section
variable {m:Ab5} {ops:Array Oper}
def Dz (m:Ab5) (ops:Array Oper):List Nat->Prop
 | []=>True
 | i :: acc=>i < ops.size/\i ∉ acc/\(∀ o,ops[i]?=some o->∀ e ∈ o.after.toList,Aav m e=true->e.on ∈ acc)/\Dz m ops acc
theorem Dz.nodup:∀ {l:List Nat},Dz m ops l->l.Nodup
 | [],_=>List.nodup_nil
 | _ :: _,h=>Aax.2 ⟨h.2.1,h.2.2.2.nodup⟩
theorem Dz.lt:∀ {l:List Nat},Dz m ops l->∀ i ∈ l,i < ops.size
 | [],_,i,hi=>by simp at hi
 | j :: l,h,i,hi=>by
  rcases Ab6.1 hi with rfl | hi
  · exact h.1
  · exact h.2.2.2.lt i hi
theorem length_le_of_subset:∀ {l l':List Nat},l.Nodup->(∀ i ∈ l,i ∈ l')->l.length<=l'.length
 | [],l',_,_=>Nat.zero_le _
 | i :: r,l',h,hs=>by
  have hi:i ∈ l':=hs i (by simp);have h1:=Aax.1 h
  have:=length_le_of_subset (l:=r) (l':=l'.erase i) h1.2 (fun j hj=>by
   have Dx:j≠i:=by rintro rfl;exact h1.1 hj
   exact (List.mem_erase_of_ne Dx).2 (hs j (by simp [hj])))
  rw [List.length_erase_of_mem hi] at this;have iw:0 < l'.length:=List.length_pos_of_mem hi;simp only [List.length_cons];omega
theorem nodup_lt_length {l:List Nat} {n:Nat} (h:l.Nodup) (hl:∀ i ∈ l,i < n):l.length<=n:=by
 have:=length_le_of_subset (l':=Ab1 n) h (fun i hi=>by simpa using hl i hi);simpa using this
theorem Ko {l:List Nat} {n:Nat} (h:l.Nodup) (hl:∀ i ∈ l,i < n) (hn:l.length=n):∀ i,i < n->i ∈ l:=by
 intro i hi;refine Aau fun G0=>?_
 have:=nodup_lt_length (l:=i :: l) (n:=n) (Aax.2 ⟨G0,h⟩) (fun j hj=>by
  rcases Ab6.1 hj with rfl | hj
  · exact hi
  · exact hl j hj)
 simp at this;omega
theorem Rc (r:Nat->Nat) {n:Nat} {acc:List Nat} (h:∃ i,i < n/\i ∉ acc):∃ i,i < n/\i ∉ acc/\∀ j,j < n->j ∉ acc->r i<=r j:=by
 have key:∀ k,(∃ i,i < n/\i ∉ acc/\r i<=k)->∃ i,i < n/\i ∉ acc/\∀ j,j < n->j ∉ acc->r i<=r j:=by
  intro k
  induction k with
  | zero=>rintro ⟨i,h1,h2,h3⟩;exact ⟨i,h1,h2,fun j _ _=>by omega⟩
  | succ k ih=>
   rintro ⟨i,h1,h2,h3⟩
   by_cases hx:∃ j,j < n/\j ∉ acc/\r j<=k
   · exact ih hx
   · refine ⟨i,h1,h2,fun j a b=>?_⟩
     rcases Nat.lt_or_ge (r j) (r i) with BC | Qy
     · exact absurd ⟨j,a,b,by omega⟩ hx
     · exact Qy
 obtain ⟨i,h1,h2⟩:=h;exact key (r i) ⟨i,h1,h2,Nat.le_refl _⟩
theorem MI (r:Nat->Nat) (hr:∀ i o,ops[i]?=some o->∀ e ∈ o.after.toList,Aav m e=true->r e.on < r i/\e.on < ops.size) :
 ∀ (fuel t:Nat) (listed:Array Bool) (acc:List Nat),Dz m ops acc->listed.size=ops.size->(∀ i,i < ops.size->(listed.getD i true=true↔i ∈ acc))->acc.length+fuel=ops.size ->
  ∃ acc',Aaw.go m ops fuel t listed acc=acc'.reverse/\Dz m ops acc'/\acc'.length=ops.size
 | 0,t,listed,acc,hg,_,_,hl=>⟨acc,rfl,hg,by omega⟩
 | fuel+1,t,listed,acc,hg,hs,yJ,hl=>by
  unfold Aaw.go;simp only;generalize wa:(Ab1 ops.size).filter (fun i=>!listed.getD i true && ((ops[i]?).map (·.after.all fun e=>!Aav m e || listed.getD e.on false)).getD false)=rs
  have I2:∀ i,i ∈ rs↔i < ops.size/\i ∉ acc/\∀ o,ops[i]?=some o->∀ e ∈ o.after.toList,Aav m e=true->listed.getD e.on false=true:=by
   intro i;rw [<- wa];simp only [List.mem_filter,List.mem_range,Bool.and_eq_true,Bool.not_eq_true'];constructor
   · rintro ⟨h1,h2,h3⟩
     refine ⟨h1,fun hm=>?_,fun o ho e he hb=>?_⟩
     · rw [(yJ i h1).2 hm] at h2;cases h2
     · rw [ho] at h3
       simp only [Ab2,Ab0] at h3;rw [<- Ab3,Ab4] at h3;have:=h3 e he;simpa [hb] using this
   · rintro ⟨h1,h2,h3⟩
     refine ⟨h1,?_,?_⟩
     · cases hx:listed.getD i true with
       | false=>rfl
       | true=>exact absurd ((yJ i h1).1 hx) h2
     · rw [Aay h1]
       simp only [Ab2,Ab0];rw [<- Ab3,Ab4];intro e he;cases hb:Aav m e with
       | false=>rfl
       | true=>simpa using h3 _ (Aay h1) e he hb
  have hlisted:∀ j,j < ops.size->(listed.getD j false=true↔j ∈ acc):=by
   intro j hj;rw [<- yJ j hj];simp [Aaz,hs,hj]
  have Dx:rs≠[]:=by
   have hex:∃ i,i < ops.size/\i ∉ acc:=by
    refine Aau fun G0=>?_;have D1:∀ i,i < ops.size->i ∈ acc:=fun i hi=>Aau fun hx=>G0 ⟨i,hi,hx⟩;have:=length_le_of_subset (l:=Ab1 ops.size) (l':=acc) List.nodup_range (fun i hi=>D1 i (by simpa using hi));simp at this;omega
   obtain ⟨i,h1,h2,h3⟩:=Rc r hex
   have:i ∈ rs:=by
    rw [I2];refine ⟨h1,h2,fun o ho e he hb=>?_⟩;obtain ⟨g1,g2⟩:=hr i o ho e he hb;rw [hlisted e.on g2];refine Aau fun hx=>?_;have:=h3 e.on g2 hx;omega
   intro h;rw [h] at this;cases this
  have iw:0 < rs.length:=List.length_pos_iff.2 Dx;have BC:t % rs.length < rs.length:=Nat.mod_lt _ iw;rw [List.getElem?_eq_getElem BC];simp only;generalize hi:rs[t % rs.length]=i;have him:i ∈ rs:=by rw [<- hi];exact List.getElem_mem BC
  obtain ⟨g1,g2,g3⟩:=(I2 i).1 him;refine MI r hr fuel _ _ (i :: acc) ⟨g1,g2,fun o ho e he hb=>(hlisted e.on (hr i o ho e he hb).2).1 (g3 o ho e he hb),hg⟩ (by simp [hs]) (fun j hj=>?_) (by simp;omega);by_cases qE:j=i
  · subst qE
    simp [Aaz,hs,hj]
  · have:=yJ j hj
    have e1:(listed.setIfInBounds i true).getD j true=listed.getD j true:=by
     simp only [Array.getD_eq_getD_getElem?,Array.getElem?_setIfInBounds];rw [if_neg (Ne.symm qE)]
    rw [e1,this];simp [qE]
theorem DA (r:Nat->Nat) (hr:∀ i o,ops[i]?=some o->∀ e ∈ o.after.toList,Aav m e=true->r e.on < r i/\e.on < ops.size) (t:Nat) :
 ∃ acc',Aaw m ops t=acc'.reverse/\Dz m ops acc'/\acc'.length=ops.size:=
 MI r hr ops.size t _ [] trivial (by simp) (fun i hi=>by simp [Aaz,hi]) (by simp)
end
end Go.HH
