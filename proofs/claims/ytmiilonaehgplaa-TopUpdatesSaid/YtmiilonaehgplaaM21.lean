/-
  What the law needs, packed: Order.
-/
import Derived.Test.YtmiilonaehgplaaM20
namespace Go.HH
open Go Go.RowKit
section
variable {m:Region.Mode} {ops:Array Oper}
def GoodR (m:Region.Mode) (ops:Array Oper):List Nat->Prop
 | []=>True
 | i :: acc=>i < ops.size∧i ∉ acc∧(∀ o,ops[i]?=some o->∀ e ∈ o.after.toList,Region.binds m e=true->e.on ∈ acc)∧GoodR m ops acc
theorem GoodR.nodup:∀ {l:List Nat},GoodR m ops l->l.Nodup
 | [],_=>List.nodup_nil
 | _ :: _,h=>List.nodup_cons.2 ⟨h.2.1,h.2.2.2.nodup⟩
theorem GoodR.lt:∀ {l:List Nat},GoodR m ops l->∀ i ∈ l,i < ops.size
 | [],_,i,hi=>by simp at hi
 | j :: l,h,i,hi=>by
  rcases List.mem_cons.1 hi with rfl | hi
  · exact h.1
  · exact h.2.2.2.lt i hi
theorem length_le_of_subset:∀ {l l':List Nat},l.Nodup->(∀ i ∈ l,i ∈ l')->l.length<=l'.length
 | [],l',_,_=>Nat.zero_le _
 | i :: r,l',h,hs=>by
  have hi:i ∈ l':=hs i (by simp)
  have h1:=List.nodup_cons.1 h
  have:=length_le_of_subset (l:=r) (l':=l'.erase i) h1.2 (fun j hj=>by
   have hne:j≠i:=by rintro rfl;exact h1.1 hj
   exact (List.mem_erase_of_ne hne).2 (hs j (by simp [hj])))
  rw [List.length_erase_of_mem hi] at this
  have hpos:0 < l'.length:=List.length_pos_of_mem hi
  simp only [List.length_cons]
  omega
theorem nodup_lt_length {l:List Nat} {n:Nat} (h:l.Nodup) (hl:∀ i ∈ l,i < n):l.length<=n:=by
 have:=length_le_of_subset (l':=List.range n) h (fun i hi=>by simpa using hl i hi)
 simpa using this
theorem full_of_length {l:List Nat} {n:Nat} (h:l.Nodup) (hl:∀ i ∈ l,i < n) (hn:l.length=n):∀ i,i < n->i ∈ l:=by
 intro i hi
 refine Classical.byContradiction fun hno=>?_
 have:=nodup_lt_length (l:=i :: l) (n:=n) (List.nodup_cons.2 ⟨hno,h⟩) (fun j hj=>by
  rcases List.mem_cons.1 hj with rfl | hj
  · exact hi
  · exact hl j hj)
 simp at this
 omega
theorem least_unlisted (r:Nat->Nat) {n:Nat} {acc:List Nat} (h:∃ i,i < n∧i ∉ acc):∃ i,i < n∧i ∉ acc∧∀ j,j < n->j ∉ acc->r i<=r j:=by
 have key:∀ k,(∃ i,i < n∧i ∉ acc∧r i<=k)->∃ i,i < n∧i ∉ acc∧∀ j,j < n->j ∉ acc->r i<=r j:=by
  intro k
  induction k with
  | zero=>rintro ⟨i,h1,h2,h3⟩;exact ⟨i,h1,h2,fun j _ _=>by omega⟩
  | succ k ih=>
   rintro ⟨i,h1,h2,h3⟩
   by_cases hx:∃ j,j < n∧j ∉ acc∧r j<=k
   · exact ih hx
   · refine ⟨i,h1,h2,fun j a b=>?_⟩
     rcases Nat.lt_or_ge (r j) (r i) with hlt | hge
     · exact absurd ⟨j,a,b,by omega⟩ hx
     · exact hge
 obtain ⟨i,h1,h2⟩:=h
 exact key (r i) ⟨i,h1,h2,Nat.le_refl _⟩
theorem linearise_go (r:Nat->Nat) (hr:∀ i o,ops[i]?=some o->∀ e ∈ o.after.toList,Region.binds m e=true->r e.on < r i∧e.on < ops.size) :
 ∀ (fuel t:Nat) (listed:Array Bool) (acc:List Nat),GoodR m ops acc->listed.size=ops.size->(∀ i,i < ops.size->(listed.getD i true=true↔i ∈ acc))->acc.length+fuel=ops.size ->
  ∃ acc',Region.linearise.go m ops fuel t listed acc=acc'.reverse∧GoodR m ops acc'∧acc'.length=ops.size
 | 0,t,listed,acc,hg,_,_,hl=>⟨acc,rfl,hg,by omega⟩
 | fuel+1,t,listed,acc,hg,hs,hli,hl=>by
  unfold Region.linearise.go
  simp only
  generalize hrs:(List.range ops.size).filter (fun i=>!listed.getD i true && ((ops[i]?).map (·.after.all fun e=>!Region.binds m e || listed.getD e.on false)).getD false)=rs
  have hmem:∀ i,i ∈ rs↔i < ops.size∧i ∉ acc∧∀ o,ops[i]?=some o->∀ e ∈ o.after.toList,Region.binds m e=true->listed.getD e.on false=true:=by
   intro i
   rw [<- hrs]
   simp only [List.mem_filter,List.mem_range,Bool.and_eq_true,Bool.not_eq_true']
   constructor
   · rintro ⟨h1,h2,h3⟩
     refine ⟨h1,fun hm=>?_,fun o ho e he hb=>?_⟩
     · rw [(hli i h1).2 hm] at h2;cases h2
     · rw [ho] at h3
       simp only [Option.map_some,Option.getD_some] at h3
       rw [<- Array.all_toList,List.all_eq_true] at h3
       have:=h3 e he
       simpa [hb] using this
   · rintro ⟨h1,h2,h3⟩
     refine ⟨h1,?_,?_⟩
     · cases hx:listed.getD i true with
       | false=>rfl
       | true=>exact absurd ((hli i h1).1 hx) h2
     · rw [Array.getElem?_eq_getElem h1]
       simp only [Option.map_some,Option.getD_some]
       rw [<- Array.all_toList,List.all_eq_true]
       intro e he
       cases hb:Region.binds m e with
       | false=>rfl
       | true=>simpa using h3 _ (Array.getElem?_eq_getElem h1) e he hb
  have hlisted:∀ j,j < ops.size->(listed.getD j false=true↔j ∈ acc):=by
   intro j hj
   rw [<- hli j hj]
   simp [Array.getD,hs,hj]
  have hne:rs≠[]:=by
   have hex:∃ i,i < ops.size∧i ∉ acc:=by
    refine Classical.byContradiction fun hno=>?_
    have hall:∀ i,i < ops.size->i ∈ acc:=fun i hi=>Classical.byContradiction fun hx=>hno ⟨i,hi,hx⟩
    have:=length_le_of_subset (l:=List.range ops.size) (l':=acc) List.nodup_range (fun i hi=>hall i (by simpa using hi))
    simp at this
    omega
   obtain ⟨i,h1,h2,h3⟩:=least_unlisted r hex
   have:i ∈ rs:=by
    rw [hmem]
    refine ⟨h1,h2,fun o ho e he hb=>?_⟩
    obtain ⟨g1,g2⟩:=hr i o ho e he hb
    rw [hlisted e.on g2]
    refine Classical.byContradiction fun hx=>?_
    have:=h3 e.on g2 hx
    omega
   intro h
   rw [h] at this
   cases this
  have hpos:0 < rs.length:=List.length_pos_iff.2 hne
  have hlt:t % rs.length < rs.length:=Nat.mod_lt _ hpos
  rw [List.getElem?_eq_getElem hlt]
  simp only
  generalize hi:rs[t % rs.length]=i
  have him:i ∈ rs:=by rw [<- hi];exact List.getElem_mem hlt
  obtain ⟨g1,g2,g3⟩:=(hmem i).1 him
  refine linearise_go r hr fuel _ _ (i :: acc) ⟨g1,g2,fun o ho e he hb=>(hlisted e.on (hr i o ho e he hb).2).1 (g3 o ho e he hb),hg⟩ (by simp [hs]) (fun j hj=>?_) (by simp;omega)
  by_cases hji:j=i
  · subst hji
    simp [Array.getD,hs,hj]
  · have:=hli j hj
    have e1:(listed.setIfInBounds i true).getD j true=listed.getD j true:=by
     simp only [Array.getD_eq_getD_getElem?,Array.getElem?_setIfInBounds]
     rw [if_neg (Ne.symm hji)]
    rw [e1,this]
    simp [hji]
theorem linearise_good (r:Nat->Nat) (hr:∀ i o,ops[i]?=some o->∀ e ∈ o.after.toList,Region.binds m e=true->r e.on < r i∧e.on < ops.size) (t:Nat) :
 ∃ acc',Region.linearise m ops t=acc'.reverse∧GoodR m ops acc'∧acc'.length=ops.size:=
 linearise_go r hr ops.size t _ [] trivial (by simp) (fun i hi=>by simp [Array.getD,hi]) (by simp)
end
end Go.HH
