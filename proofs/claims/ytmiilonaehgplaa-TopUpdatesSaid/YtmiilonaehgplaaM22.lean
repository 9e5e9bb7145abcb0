/-
  What the law needs, packed: Draw.
-/
import Derived.Test.YtmiilonaehgplaaM21
namespace Go.HH
open Go Go.RowKit
theorem foldl_push_spec (g:Array Nat->Oper->Nat):∀ (l:List Oper) (acc:Array Nat),
 (l.foldl (fun acc o=>acc.push (g acc o)) acc).size=acc.size+l.length ∧
 (∀ i,i < acc.size->(l.foldl (fun acc o=>acc.push (g acc o)) acc).getD i 0=acc.getD i 0) ∧
 ∀ k (h:k < l.length),∃ acc':Array Nat,(∀ i,i < acc.size+k->acc'.getD i 0=(l.foldl (fun acc o=>acc.push (g acc o)) acc).getD i 0) ∧
  (l.foldl (fun acc o=>acc.push (g acc o)) acc).getD (acc.size+k) 0=g acc' l[k]
 | [],acc=>⟨by simp,fun i _=>rfl,fun k h=>by simp at h⟩
 | o :: r,acc=>by
  obtain ⟨h1,h2,h3⟩:=foldl_push_spec g r (acc.push (g acc o))
  simp only [List.foldl_cons]
  have hs:(acc.push (g acc o)).size=acc.size+1:=by simp
  have hp:∀ i,i < acc.size->(acc.push (g acc o)).getD i 0=acc.getD i 0:=by
   intro i hi
   simp only [Array.getD_eq_getD_getElem?,Array.getElem?_push]
   rw [if_neg (by omega)]
  refine ⟨by rw [h1,hs];simp;omega,fun i hi=>by rw [h2 i (by omega),hp i hi],fun k hk=>?_⟩
  cases k with
  | zero=>
   refine ⟨acc,fun i hi=>?_,?_⟩
   · rw [h2 i (by omega),hp i (by omega)]
   · rw [Nat.add_zero,h2 acc.size (by omega)]
     simp [Array.getD_eq_getD_getElem?]
  | succ k=>
   obtain ⟨acc',g1,g2⟩:=h3 k (by simpa using hk)
   refine ⟨acc',fun i hi=>g1 i (by omega),?_⟩
   rw [hs] at g2
   rw [show acc.size+(k+1)=acc.size+1+k by omega]
   exact g2
theorem fold_or_testBit (acc:Array Nat) (j:Nat):∀ (l:List Edge) (s:Nat),
 (l.foldl (fun s e=>if Region.binds .any e then s ||| 2 ^ e.on ||| acc.getD e.on 0 else s) s).testBit j=true ->
  s.testBit j=true∨∃ e ∈ l,Region.binds .any e=true∧(e.on=j∨(acc.getD e.on 0).testBit j=true)
 | [],s,h=>.inl h
 | e :: r,s,h=>by
  simp only [List.foldl_cons] at h
  rcases fold_or_testBit acc j r _ h with h | ⟨e',h1,h2,h3⟩
  · split at h
    · rename_i hb
      simp only [Nat.testBit_or,Bool.or_eq_true] at h
      rcases h with (h | h) | h
      · exact .inl h
      · rw [Nat.testBit_two_pow] at h
        exact .inr ⟨e,by simp,hb,.inl (by simpa using h)⟩
      · exact .inr ⟨e,by simp,hb,.inr h⟩
    · exact .inl h
  · exact .inr ⟨e',by simp [h1],h2,h3⟩
theorem before_spec {ops:Array Oper} (hlt:∀ i o,ops[i]?=some o->∀ e ∈ o.after.toList,Region.binds .any e=true->e.on < i) {i:Nat} {o:Oper} (ho:ops[i]?=some o) {j:Nat} (hj:((Region.before ops).getD i 0).testBit j=true) :
 ∃ e ∈ o.after.toList,Region.binds .any e=true∧(e.on=j∨((Region.before ops).getD e.on 0).testBit j=true):=by
 have hi:i < ops.toList.length:=by
  have:=(Array.getElem?_eq_some_iff.1 ho).1
  simpa using this
 have hb:Region.before ops=ops.toList.foldl (fun acc o=>acc.push (o.after.foldl (fun s e=>if Region.binds .any e then s ||| 2 ^ e.on ||| acc.getD e.on 0 else s) 0)) #[]:=by
  unfold Region.before
  rw [<- Array.foldl_toList]
 obtain ⟨_,_,h3⟩:=foldl_push_spec (fun acc o=>o.after.foldl (fun s e=>if Region.binds .any e then s ||| 2 ^ e.on ||| acc.getD e.on 0 else s) 0) ops.toList #[]
 obtain ⟨acc',g1,g2⟩:=h3 i hi
 rw [<- hb] at g1 g2
 simp only [List.size_toArray,List.length_nil,Nat.zero_add] at g1 g2
 have hoi:ops.toList[i]=o:=by
  have:=(Array.getElem?_eq_some_iff.1 ho).2
  simpa using this
 rw [g2,hoi,<- Array.foldl_toList] at hj
 rcases fold_or_testBit acc' j _ 0 hj with h | ⟨e,h1,h2,h3⟩
 · simp at h
 · refine ⟨e,h1,h2,?_⟩
   rcases h3 with h3 | h3
   · exact .inl h3
   · rw [g1 e.on (hlt i o ho e h1 h2)] at h3
     exact .inr h3
theorem binds_any {m:Region.Mode} {e:Edge} (h:Region.binds .any e=true):Region.binds m e=true:=by
 unfold Region.binds at h ⊢
 split at h <;> simp_all
theorem GoodR.suffix {m:Region.Mode} {ops:Array Oper}:∀ (x:List Nat) {y:List Nat},GoodR m ops (x++y)->GoodR m ops y
 | [],_,h=>h
 | _ :: x,_,h=>GoodR.suffix x h.2.2.2
theorem before_in {m:Region.Mode} {ops:Array Oper} (hlt:∀ i o,ops[i]?=some o->∀ e ∈ o.after.toList,Region.binds .any e=true->e.on < i) :
 ∀ (i:Nat) (acc:List Nat),GoodR m ops (i :: acc)->∀ j,((Region.before ops).getD i 0).testBit j=true->j ∈ acc:=by
 intro i
 induction i using Nat.strongRecOn with
 | _ i ih=>
  intro acc hg j hj
  have hi:=hg.1
  obtain ⟨e,h1,h2,h3⟩:=before_spec hlt (Array.getElem?_eq_getElem hi) hj
  have hmem:=hg.2.2.1 _ (Array.getElem?_eq_getElem hi) e h1 (binds_any h2)
  rcases h3 with h3 | h3
  · rw [<- h3];exact hmem
  · obtain ⟨x,y,hxy⟩:=List.append_of_mem hmem
    have hgood:GoodR m ops (e.on :: y):=by
     have:=hg.2.2.2
     rw [hxy] at this
     exact this.suffix x
    have:=ih e.on (hlt i _ (Array.getElem?_eq_getElem hi) e h1 h2) y hgood j h3
    rw [hxy]
    simp [this]
theorem tailFrom_spec (b:Array Nat):∀ n i,tailFrom b n<=i->i < n->subBits (2 ^ i - 1) (b.getD i 0)=true
 | 0,i,_,h=>by omega
 | n+1,i,h,hi=>by
  unfold tailFrom at h
  split at h
  · rename_i hs
    by_cases hin:i=n
    · subst hin;exact hs
    · exact tailFrom_spec b n i h (by omega)
  · omega
theorem tailFrom_le (b:Array Nat):∀ n,tailFrom b n<=n
 | 0=>Nat.le_refl _
 | n+1=>by
  unfold tailFrom
  split
  · have:=tailFrom_le b n;omega
  · omega
theorem subBits_get {i v j:Nat} (h:subBits (2 ^ i - 1) v=true) (hj:j < i):v.testBit j=true:=by
 unfold subBits at h
 simp only [beq_iff_eq] at h
 have:(2 ^ i - 1).testBit j=true:=by rw [Nat.testBit_two_pow_sub_one];simpa using hj
 rw [<- h,Nat.testBit_and,Bool.and_eq_true] at this
 exact this.2
theorem rest_range {m:Region.Mode} {ops:Array Oper} (hlt:∀ i o,ops[i]?=some o->∀ e ∈ o.after.toList,Region.binds .any e=true->e.on < i) {k:Nat}
 (htail:∀ i,k<=i->i < ops.size->∀ j,j < i->((Region.before ops).getD i 0).testBit j=true) {l:List Nat} (hg:GoodR m ops l.reverse) (hn:l.length=ops.size) :
 ∀ (rest p:List Nat) (c:Nat),l=p++rest->k<=c->(∀ x,x ∈ p↔x < c)->rest=List.range' c (ops.size - c):=by
 have hfull:∀ i,i < ops.size->i ∈ l:=fun i hi=>by
  have:=full_of_length (l:=l.reverse) (n:=ops.size) hg.nodup (fun i hi=>hg.lt i hi) (by simpa using hn) i hi
  simpa using this
 intro rest
 induction rest with
 | nil=>
  intro p c hl hkc hp
  simp only [List.append_nil] at hl
  subst hl
  have hc:c=ops.size:=by
   rcases Nat.lt_trichotomy c ops.size with h | h | h
   · have:=(hp c).1 (hfull c h);omega
   · exact h
   · have:=hg.lt ops.size (by rw [List.mem_reverse];exact (hp ops.size).2 h);omega
  rw [hc,Nat.sub_self];rfl
 | cons i q ih=>
  intro p c hl hkc hp
  have hrev:l.reverse=q.reverse++(i :: p.reverse):=by rw [hl];simp
  have hgi:GoodR m ops (i :: p.reverse):=by rw [hrev] at hg;exact hg.suffix _
  have hci:c<=i:=by
   rcases Nat.lt_or_ge i c with h | h
   · have:=hgi.2.1;rw [List.mem_reverse] at this;exact absurd ((hp i).2 h) this
   · exact h
  have hic:i<=c:=by
   rcases Nat.lt_or_ge c i with h | h
   · have:=before_in hlt i p.reverse hgi c (htail i (by omega) hgi.1 c h)
     rw [List.mem_reverse] at this
     have:=(hp c).1 this
     omega
   · exact h
  have hi:i=c:=by omega
  subst hi
  have:=ih (p++[i]) (i+1) (by rw [hl];simp) (by omega) (fun x=>by simp only [List.mem_append,List.mem_singleton,hp x];omega)
  rw [this]
  have hlt':=hgi.1
  rw [show ops.size - i=(ops.size - (i+1))+1 by omega,List.range'_succ]
def edv (dst:Nat->Option Tmp) (v:Nat->PV) (e0:Nat->PV) (P:Nat->Bool):Nat->Nat->PV
 | 0,t=>e0 t
 | k+1,t=>if P k=true∧dst k=some t then v k else edv dst v e0 P k t
theorem edv_text {dst:Nat->Option Tmp} {v:Nat->PV} {e0:Nat->PV} {P:Nat->Bool} {t i:Nat}:∀ k,i<=k->(∀ j,i<=j->j < k->P j=true->dst j≠some t)->(∀ j,j < i->dst j=some t->P j=true) ->
 edv dst v e0 P k t=edv dst v e0 (fun _=>true) i t
 | 0,hik,_,_=>by
  obtain rfl:i=0:=by omega
  rfl
 | k+1,hik,h1,h2=>by
  by_cases hk:i=k+1
  · subst hk
    have ih:=edv_text (dst:=dst) (v:=v) (e0:=e0) (P:=P) (t:=t) (i:=k) k (Nat.le_refl _) (fun j a b=>by omega) (fun j a b=>h2 j (by omega) b)
    simp only [edv]
    by_cases hd:dst k=some t
    · rw [if_pos ⟨h2 k (by omega) hd,hd⟩,if_pos ⟨trivial,hd⟩]
    · rw [if_neg (fun h=>hd h.2),if_neg (fun h=>hd h.2)]
      exact ih
  · simp only [edv]
    rw [if_neg (fun h=>h1 k (by omega) (by omega) h.1 h.2)]
    exact edv_text k (by omega) (fun j a b=>h1 j a (by omega)) h2
theorem edv_add {dst:Nat->Option Tmp} {v:Nat->PV} {e0:Nat->PV} {P P':Nat->Bool} {i:Nat} (hP':∀ j,P' j=(P j || j == i)) {t:Nat}:∀ k,i < k->(∀ j,i < j->j < k->P j=true->dst i=some t->dst j≠some t) ->
 edv dst v e0 P' k t=if dst i=some t then v i else edv dst v e0 P k t
 | 0,hik,_=>by omega
 | k+1,hik,h1=>by
  have same:∀ k,k<=i->edv dst v e0 P' k t=edv dst v e0 P k t:=by
   intro k
   induction k with
   | zero=>intro _;rfl
   | succ k ih=>
    intro hk
    simp only [edv]
    rw [hP' k,ih (by omega)]
    have:(k == i)=false:=by simp;omega
    rw [this,Bool.or_false]
  by_cases hk:k=i
  · subst hk
    simp only [edv]
    rw [hP' k]
    by_cases hd:dst k=some t
    · rw [if_pos ⟨by simp,hd⟩,if_pos hd]
    · rw [if_neg (fun h=>hd h.2),if_neg hd,if_neg (fun h=>hd h.2)]
      exact same k (Nat.le_refl _)
  · have ih:=edv_add hP' (v:=v) (e0:=e0) (dst:=dst) (t:=t) k (by omega) (fun j a b=>h1 j a (by omega))
    have hki:(k == i)=false:=by simpa using hk
    simp only [edv]
    rw [hP' k,hki,Bool.or_false,ih]
    by_cases hp:P k=true∧dst k=some t
    · rw [if_pos hp,if_pos hp]
      by_cases hd:dst i=some t
      · exact absurd hp.2 (h1 k (by omega) (by omega) hp.1 hd)
      · rw [if_neg hd]
    · rw [if_neg hp,if_neg hp]
end Go.HH
