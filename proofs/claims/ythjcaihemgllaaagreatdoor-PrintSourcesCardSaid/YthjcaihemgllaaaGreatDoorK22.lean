/-
  What the law needs, packed: Draw.
-/
import Derived.Test.YthjcaihemgllaaaGreatDoorK21
open Go.Region renaming binds->Aau,before->Aav,Mode->Aax
open Array renaming getElem?_eq_getElem->Aaw,getD_eq_getD_getElem?->Aaz,getElem?_eq_some_iff->Ab0,foldl_toList->Ab2
open List renaming mem_reverse->Aay,foldl_cons->Ab3
open Nat renaming le_refl->Ab1,lt_or_ge->Ab5
open Bool renaming or_false->Ab4
namespace Go.HH
open Go Go.RowKit
theorem JH (g:Array Nat->Oper->Nat):∀ (l:List Oper) (acc:Array Nat),
 (l.foldl (fun acc o=>acc.push (g acc o)) acc).size=acc.size+l.length /\
 (∀ i,i < acc.size->(l.foldl (fun acc o=>acc.push (g acc o)) acc).getD i 0=acc.getD i 0) /\
 ∀ k (h:k < l.length),∃ acc':Array Nat,(∀ i,i < acc.size+k->acc'.getD i 0=(l.foldl (fun acc o=>acc.push (g acc o)) acc).getD i 0) /\
  (l.foldl (fun acc o=>acc.push (g acc o)) acc).getD (acc.size+k) 0=g acc' l[k]
 | [],acc=>⟨by simp,fun i _=>rfl,fun k h=>by simp at h⟩
 | o :: r,acc=>by
  obtain ⟨h1,h2,h3⟩:=JH g r (acc.push (g acc o));simp only [Ab3];have hs:(acc.push (g acc o)).size=acc.size+1:=by simp
  have hp:∀ i,i < acc.size->(acc.push (g acc o)).getD i 0=acc.getD i 0:=by
   intro i hi;simp only [Aaz,Array.getElem?_push];rw [if_neg (by omega)]
  refine ⟨by rw [h1,hs];simp;omega,fun i hi=>by rw [h2 i (by omega),hp i hi],fun k hk=>?_⟩;cases k with
  | zero=>
   refine ⟨acc,fun i hi=>?_,?_⟩
   · rw [h2 i (by omega),hp i (by omega)]
   · rw [Nat.add_zero,h2 acc.size (by omega)]
     simp [Aaz]
  | succ k=>
   obtain ⟨acc',g1,g2⟩:=h3 k (by simpa using hk);refine ⟨acc',fun i hi=>g1 i (by omega),?_⟩;rw [hs] at g2;rw [show acc.size+(k+1)=acc.size+1+k by omega];exact g2
theorem JI (acc:Array Nat) (j:Nat):∀ (l:List Edge) (s:Nat),
 (l.foldl (fun s e=>if Aau .any e then s ||| 2 ^ e.on ||| acc.getD e.on 0 else s) s).testBit j=true ->
  s.testBit j=true\/∃ e ∈ l,Aau .any e=true/\(e.on=j\/(acc.getD e.on 0).testBit j=true)
 | [],s,h=>.inl h
 | e :: r,s,h=>by
  simp only [Ab3] at h;rcases JI acc j r _ h with h | ⟨e',h1,h2,h3⟩
  · split at h
    · rename_i hb
      simp only [Nat.testBit_or,Bool.or_eq_true] at h;rcases h with (h | h) | h
      · exact .inl h
      · rw [Nat.testBit_two_pow] at h
        exact .inr ⟨e,by simp,hb,.inl (by simpa using h)⟩
      · exact .inr ⟨e,by simp,hb,.inr h⟩
    · exact .inl h
  · exact .inr ⟨e',by simp [h1],h2,h3⟩
theorem X8 {ops:Array Oper} (BC:∀ i o,ops[i]?=some o->∀ e ∈ o.after.toList,Aau .any e=true->e.on < i) {i:Nat} {o:Oper} (ho:ops[i]?=some o) {j:Nat} (hj:((Aav ops).getD i 0).testBit j=true) :
 ∃ e ∈ o.after.toList,Aau .any e=true/\(e.on=j\/((Aav ops).getD e.on 0).testBit j=true):=by
 have hi:i < ops.toList.length:=by
  have:=(Ab0.1 ho).1;simpa using this
 have hb:Aav ops=ops.toList.foldl (fun acc o=>acc.push (o.after.foldl (fun s e=>if Aau .any e then s ||| 2 ^ e.on ||| acc.getD e.on 0 else s) 0)) #[]:=by
  unfold Aav;rw [<- Ab2]
 obtain ⟨_,_,h3⟩:=JH (fun acc o=>o.after.foldl (fun s e=>if Aau .any e then s ||| 2 ^ e.on ||| acc.getD e.on 0 else s) 0) ops.toList #[];obtain ⟨acc',g1,g2⟩:=h3 i hi;rw [<- hb] at g1 g2;simp only [List.size_toArray,List.length_nil,Nat.zero_add] at g1 g2
 have mU:ops.toList[i]=o:=by
  have:=(Ab0.1 ho).2;simpa using this
 rw [g2,mU,<- Ab2] at hj;rcases JI acc' j _ 0 hj with h | ⟨e,h1,h2,h3⟩
 · simp at h
 · refine ⟨e,h1,h2,?_⟩
   rcases h3 with h3 | h3
   · exact .inl h3
   · rw [g1 e.on (BC i o ho e h1 h2)] at h3
     exact .inr h3
theorem Lh {m:Aax} {e:Edge} (h:Aau .any e=true):Aau m e=true:=by
 unfold Aau at h |-;split at h <;> simp_all
theorem Dz.suffix {m:Aax} {ops:Array Oper}:∀ (x:List Nat) {y:List Nat},Dz m ops (x++y)->Dz m ops y
 | [],_,h=>h
 | _ :: x,_,h=>Dz.suffix x h.2.2.2
theorem Iu {m:Aax} {ops:Array Oper} (BC:∀ i o,ops[i]?=some o->∀ e ∈ o.after.toList,Aau .any e=true->e.on < i) :
 ∀ (i:Nat) (acc:List Nat),Dz m ops (i :: acc)->∀ j,((Aav ops).getD i 0).testBit j=true->j ∈ acc:=by
 intro i
 induction i using Nat.strongRecOn with
 | _ i ih=>
  intro acc hg j hj;have hi:=hg.1;obtain ⟨e,h1,h2,h3⟩:=X8 BC (Aaw hi) hj;have I2:=hg.2.2.1 _ (Aaw hi) e h1 (Lh h2);rcases h3 with h3 | h3
  · rw [<- h3];exact I2
  · obtain ⟨x,y,iD⟩:=List.append_of_mem I2
    have ZN:Dz m ops (e.on :: y):=by
     have:=hg.2.2.2;rw [iD] at this;exact this.suffix x
    have:=ih e.on (BC i _ (Aaw hi) e h1 h2) y ZN j h3;rw [iD];simp [this]
theorem LL (b:Array Nat):∀ n i,G3 b n<=i->i < n->QC (2 ^ i - 1) (b.getD i 0)=true
 | 0,i,_,h=>by omega
 | n+1,i,h,hi=>by
  unfold G3 at h;split at h
  · rename_i hs
    by_cases NQ:i=n
    · subst NQ;exact hs
    · exact LL b n i h (by omega)
  · omega
theorem Pf (b:Array Nat):∀ n,G3 b n<=n
 | 0=>Ab1 _
 | n+1=>by
  unfold G3;split
  · have:=Pf b n;omega
  · omega
theorem X9 {i v j:Nat} (h:QC (2 ^ i - 1) v=true) (hj:j < i):v.testBit j=true:=by
 unfold QC at h;simp only [beq_iff_eq] at h;have:(2 ^ i - 1).testBit j=true:=by rw [Nat.testBit_two_pow_sub_one];simpa using hj
 rw [<- h,Nat.testBit_and,Bool.and_eq_true] at this;exact this.2
theorem aC {m:Aax} {ops:Array Oper} (BC:∀ i o,ops[i]?=some o->∀ e ∈ o.after.toList,Aau .any e=true->e.on < i) {k:Nat}
 (eR:∀ i,k<=i->i < ops.size->∀ j,j < i->((Aav ops).getD i 0).testBit j=true) {l:List Nat} (hg:Dz m ops l.reverse) (hn:l.length=ops.size) :
 ∀ (rest p:List Nat) (c:Nat),l=p++rest->k<=c->(∀ x,x ∈ p↔x < c)->rest=List.range' c (ops.size - c):=by
 have ZD:∀ i,i < ops.size->i ∈ l:=fun i hi=>by
  have:=Ko (l:=l.reverse) (n:=ops.size) hg.nodup (fun i hi=>hg.lt i hi) (by simpa using hn) i hi;simpa using this
 intro rest
 induction rest with
 | nil=>
  intro p c hl hkc hp;simp only [List.append_nil] at hl;subst hl
  have hc:c=ops.size:=by
   rcases Nat.lt_trichotomy c ops.size with h | h | h
   · have:=(hp c).1 (ZD c h);omega
   · exact h
   · have:=hg.lt ops.size (by rw [Aay];exact (hp ops.size).2 h);omega
  rw [hc,Nat.sub_self];rfl
 | cons i q ih=>
  intro p c hl hkc hp;have vb:l.reverse=q.reverse++(i :: p.reverse):=by rw [hl];simp
  have iF:Dz m ops (i :: p.reverse):=by rw [vb] at hg;exact hg.suffix _
  have hci:c<=i:=by
   rcases Ab5 i c with h | h
   · have:=iF.2.1;rw [Aay] at this;exact absurd ((hp i).2 h) this
   · exact h
  have hic:i<=c:=by
   rcases Ab5 c i with h | h
   · have:=Iu BC i p.reverse iF c (eR i (by omega) iF.1 c h)
     rw [Aay] at this;have:=(hp c).1 this;omega
   · exact h
  have hi:i=c:=by omega
  subst hi;have:=ih (p++[i]) (i+1) (by rw [hl];simp) (by omega) (fun x=>by simp only [List.mem_append,List.mem_singleton,hp x];omega);rw [this];have hlt':=iF.1;rw [show ops.size - i=(ops.size - (i+1))+1 by omega,List.range'_succ]
def V7 (dst:Nat->Option Tmp) (v:Nat->PV) (e0:Nat->PV) (P:Nat->Bool):Nat->Nat->PV
 | 0,t=>e0 t
 | k+1,t=>if P k=true/\dst k=some t then v k else V7 dst v e0 P k t
theorem MJ {dst:Nat->Option Tmp} {v:Nat->PV} {e0:Nat->PV} {P:Nat->Bool} {t i:Nat}:∀ k,i<=k->(∀ j,i<=j->j < k->P j=true->dst j≠some t)->(∀ j,j < i->dst j=some t->P j=true) ->
 V7 dst v e0 P k t=V7 dst v e0 (fun _=>true) i t
 | 0,eJ,_,_=>by
  obtain rfl:i=0:=by omega
  rfl
 | k+1,eJ,h1,h2=>by
  by_cases hk:i=k+1
  · subst hk
    have ih:=MJ (dst:=dst) (v:=v) (e0:=e0) (P:=P) (t:=t) (i:=k) k (Ab1 _) (fun j a b=>by omega) (fun j a b=>h2 j (by omega) b);simp only [V7];by_cases hd:dst k=some t
    · rw [if_pos ⟨h2 k (by omega) hd,hd⟩,if_pos ⟨trivial,hd⟩]
    · rw [if_neg (fun h=>hd h.2),if_neg (fun h=>hd h.2)]
      exact ih
  · simp only [V7]
    rw [if_neg (fun h=>h1 k (by omega) (by omega) h.1 h.2)];exact MJ k (by omega) (fun j a b=>h1 j a (by omega)) h2
theorem cV {dst:Nat->Option Tmp} {v:Nat->PV} {e0:Nat->PV} {P P':Nat->Bool} {i:Nat} (nA:∀ j,P' j=(P j || j == i)) {t:Nat}:∀ k,i < k->(∀ j,i < j->j < k->P j=true->dst i=some t->dst j≠some t) ->
 V7 dst v e0 P' k t=if dst i=some t then v i else V7 dst v e0 P k t
 | 0,eJ,_=>by omega
 | k+1,eJ,h1=>by
  have same:∀ k,k<=i->V7 dst v e0 P' k t=V7 dst v e0 P k t:=by
   intro k
   induction k with
   | zero=>intro _;rfl
   | succ k ih=>
    intro hk;simp only [V7];rw [nA k,ih (by omega)];have:(k == i)=false:=by simp;omega
    rw [this,Ab4]
  by_cases hk:k=i
  · subst hk
    simp only [V7];rw [nA k];by_cases hd:dst k=some t
    · rw [if_pos ⟨by simp,hd⟩,if_pos hd]
    · rw [if_neg (fun h=>hd h.2),if_neg hd,if_neg (fun h=>hd h.2)]
      exact same k (Ab1 _)
  · have ih:=cV nA (v:=v) (e0:=e0) (dst:=dst) (t:=t) k (by omega) (fun j a b=>h1 j a (by omega))
    have hki:(k == i)=false:=by simpa using hk
    simp only [V7];rw [nA k,hki,Ab4,ih];by_cases hp:P k=true/\dst k=some t
    · rw [if_pos hp,if_pos hp]
      by_cases hd:dst i=some t
      · exact absurd hp.2 (h1 k (by omega) (by omega) hp.1 hd)
      · rw [if_neg hd]
    · rw [if_neg hp,if_neg hp]
end Go.HH
