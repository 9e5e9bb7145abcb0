/-
  What the law needs, packed: Draw.
-/
import Derived.Test.YthjcaihemgllaaaGreatDoorJ21
open Go.Region renaming binds->Aa0,before->Aa1,Mode->Aa3
open Array renaming getElem?_eq_getElem->Aa2,getD_eq_getD_getElem?->Aa5,getElem?_eq_some_iff->Aa6,foldl_toList->Aa8
open List renaming mem_reverse->Aa4,foldl_cons->Aa9
open Nat renaming le_refl->Aa7,lt_or_ge->Aab
open Bool renaming or_false->Aaa
namespace Go.HH
open Go Go.RowKit
theorem Jz (g:Array Nat->Oper->Nat):∀ (l:List Oper) (acc:Array Nat),
 (l.foldl (fun acc o=>acc.push (g acc o)) acc).size=acc.size+l.length /\
 (∀ i,i < acc.size->(l.foldl (fun acc o=>acc.push (g acc o)) acc).getD i 0=acc.getD i 0) /\
 ∀ k (h:k < l.length),∃ acc':Array Nat,(∀ i,i < acc.size+k->acc'.getD i 0=(l.foldl (fun acc o=>acc.push (g acc o)) acc).getD i 0) /\
  (l.foldl (fun acc o=>acc.push (g acc o)) acc).getD (acc.size+k) 0=g acc' l[k]
 | [],acc=>⟨by simp,fun i _=>rfl,fun k h=>by simp at h⟩
 | o :: r,acc=>by
  obtain ⟨h1,h2,h3⟩:=Jz g r (acc.push (g acc o));simp only [Aa9];have hs:(acc.push (g acc o)).size=acc.size+1:=by simp
  have hp:∀ i,i < acc.size->(acc.push (g acc o)).getD i 0=acc.getD i 0:=by
   intro i hi;simp only [Aa5,Array.getElem?_push];rw [if_neg (by omega)]
  refine ⟨by rw [h1,hs];simp;omega,fun i hi=>by rw [h2 i (by omega),hp i hi],fun k hk=>?_⟩;cases k with
  | zero=>
   refine ⟨acc,fun i hi=>?_,?_⟩
   · rw [h2 i (by omega),hp i (by omega)]
   · rw [Nat.add_zero,h2 acc.size (by omega)]
     simp [Aa5]
  | succ k=>
   obtain ⟨acc',g1,g2⟩:=h3 k (by simpa using hk);refine ⟨acc',fun i hi=>g1 i (by omega),?_⟩;rw [hs] at g2;rw [show acc.size+(k+1)=acc.size+1+k by omega];exact g2
theorem JA (acc:Array Nat) (j:Nat):∀ (l:List Edge) (s:Nat),
 (l.foldl (fun s e=>if Aa0 .any e then s ||| 2 ^ e.on ||| acc.getD e.on 0 else s) s).testBit j=true ->
  s.testBit j=true\/∃ e ∈ l,Aa0 .any e=true/\(e.on=j\/(acc.getD e.on 0).testBit j=true)
 | [],s,h=>.inl h
 | e :: r,s,h=>by
  simp only [Aa9] at h;rcases JA acc j r _ h with h | ⟨e',h1,h2,h3⟩
  · split at h
    · rename_i hb
      simp only [Nat.testBit_or,Bool.or_eq_true] at h;rcases h with (h | h) | h
      · exact .inl h
      · rw [Nat.testBit_two_pow] at h
        exact .inr ⟨e,by simp,hb,.inl (by simpa using h)⟩
      · exact .inr ⟨e,by simp,hb,.inr h⟩
    · exact .inl h
  · exact .inr ⟨e',by simp [h1],h2,h3⟩
theorem XT {ops:Array Oper} (Bz:∀ i o,ops[i]?=some o->∀ e ∈ o.after.toList,Aa0 .any e=true->e.on < i) {i:Nat} {o:Oper} (ho:ops[i]?=some o) {j:Nat} (hj:((Aa1 ops).getD i 0).testBit j=true) :
 ∃ e ∈ o.after.toList,Aa0 .any e=true/\(e.on=j\/((Aa1 ops).getD e.on 0).testBit j=true):=by
 have hi:i < ops.toList.length:=by
  have:=(Aa6.1 ho).1;simpa using this
 have hb:Aa1 ops=ops.toList.foldl (fun acc o=>acc.push (o.after.foldl (fun s e=>if Aa0 .any e then s ||| 2 ^ e.on ||| acc.getD e.on 0 else s) 0)) #[]:=by
  unfold Aa1;rw [<- Aa8]
 obtain ⟨_,_,h3⟩:=Jz (fun acc o=>o.after.foldl (fun s e=>if Aa0 .any e then s ||| 2 ^ e.on ||| acc.getD e.on 0 else s) 0) ops.toList #[];obtain ⟨acc',g1,g2⟩:=h3 i hi;rw [<- hb] at g1 g2;simp only [List.size_toArray,List.length_nil,Nat.zero_add] at g1 g2
 have mm:ops.toList[i]=o:=by
  have:=(Aa6.1 ho).2;simpa using this
 rw [g2,mm,<- Aa8] at hj;rcases JA acc' j _ 0 hj with h | ⟨e,h1,h2,h3⟩
 · simp at h
 · refine ⟨e,h1,h2,?_⟩
   rcases h3 with h3 | h3
   · exact .inl h3
   · rw [g1 e.on (Bz i o ho e h1 h2)] at h3
     exact .inr h3
theorem K9 {m:Aa3} {e:Edge} (h:Aa0 .any e=true):Aa0 m e=true:=by
 unfold Aa0 at h |-;split at h <;> simp_all
theorem DB.suffix {m:Aa3} {ops:Array Oper}:∀ (x:List Nat) {y:List Nat},DB m ops (x++y)->DB m ops y
 | [],_,h=>h
 | _ :: x,_,h=>DB.suffix x h.2.2.2
theorem Im {m:Aa3} {ops:Array Oper} (Bz:∀ i o,ops[i]?=some o->∀ e ∈ o.after.toList,Aa0 .any e=true->e.on < i) :
 ∀ (i:Nat) (acc:List Nat),DB m ops (i :: acc)->∀ j,((Aa1 ops).getD i 0).testBit j=true->j ∈ acc:=by
 intro i
 induction i using Nat.strongRecOn with
 | _ i ih=>
  intro acc hg j hj;have hi:=hg.1;obtain ⟨e,h1,h2,h3⟩:=XT Bz (Aa2 hi) hj;have IP:=hg.2.2.1 _ (Aa2 hi) e h1 (K9 h2);rcases h3 with h3 | h3
  · rw [<- h3];exact IP
  · obtain ⟨x,y,hH⟩:=List.append_of_mem IP
    have Zv:DB m ops (e.on :: y):=by
     have:=hg.2.2.2;rw [hH] at this;exact this.suffix x
    have:=ih e.on (Bz i _ (Aa2 hi) e h1 h2) y Zv j h3;rw [hH];simp [this]
theorem LD (b:Array Nat):∀ n i,GX b n<=i->i < n->Qq (2 ^ i - 1) (b.getD i 0)=true
 | 0,i,_,h=>by omega
 | n+1,i,h,hi=>by
  unfold GX at h;split at h
  · rename_i hs
    by_cases NH:i=n
    · subst NH;exact hs
    · exact LD b n i h (by omega)
  · omega
theorem O6 (b:Array Nat):∀ n,GX b n<=n
 | 0=>Aa7 _
 | n+1=>by
  unfold GX;split
  · have:=O6 b n;omega
  · omega
theorem XU {i v j:Nat} (h:Qq (2 ^ i - 1) v=true) (hj:j < i):v.testBit j=true:=by
 unfold Qq at h;simp only [beq_iff_eq] at h;have:(2 ^ i - 1).testBit j=true:=by rw [Nat.testBit_two_pow_sub_one];simpa using hj
 rw [<- h,Nat.testBit_and,Bool.and_eq_true] at this;exact this.2
theorem Z3 {m:Aa3} {ops:Array Oper} (Bz:∀ i o,ops[i]?=some o->∀ e ∈ o.after.toList,Aa0 .any e=true->e.on < i) {k:Nat}
 (eu:∀ i,k<=i->i < ops.size->∀ j,j < i->((Aa1 ops).getD i 0).testBit j=true) {l:List Nat} (hg:DB m ops l.reverse) (hn:l.length=ops.size) :
 ∀ (rest p:List Nat) (c:Nat),l=p++rest->k<=c->(∀ x,x ∈ p↔x < c)->rest=List.range' c (ops.size - c):=by
 have Zl:∀ i,i < ops.size->i ∈ l:=fun i hi=>by
  have:=Kf (l:=l.reverse) (n:=ops.size) hg.nodup (fun i hi=>hg.lt i hi) (by simpa using hn) i hi;simpa using this
 intro rest
 induction rest with
 | nil=>
  intro p c hl hkc hp;simp only [List.append_nil] at hl;subst hl
  have hc:c=ops.size:=by
   rcases Nat.lt_trichotomy c ops.size with h | h | h
   · have:=(hp c).1 (Zl c h);omega
   · exact h
   · have:=hg.lt ops.size (by rw [Aa4];exact (hp ops.size).2 h);omega
  rw [hc,Nat.sub_self];rfl
 | cons i q ih=>
  intro p c hl hkc hp;have uu:l.reverse=q.reverse++(i :: p.reverse):=by rw [hl];simp
  have hO:DB m ops (i :: p.reverse):=by rw [uu] at hg;exact hg.suffix _
  have hci:c<=i:=by
   rcases Aab i c with h | h
   · have:=hO.2.1;rw [Aa4] at this;exact absurd ((hp i).2 h) this
   · exact h
  have hic:i<=c:=by
   rcases Aab c i with h | h
   · have:=Im Bz i p.reverse hO c (eu i (by omega) hO.1 c h)
     rw [Aa4] at this;have:=(hp c).1 this;omega
   · exact h
  have hi:i=c:=by omega
  subst hi;have:=ih (p++[i]) (i+1) (by rw [hl];simp) (by omega) (fun x=>by simp only [List.mem_append,List.mem_singleton,hp x];omega);rw [this];have hlt':=hO.1;rw [show ops.size - i=(ops.size - (i+1))+1 by omega,List.range'_succ]
def VU (dst:Nat->Option Tmp) (v:Nat->PV) (e0:Nat->PV) (P:Nat->Bool):Nat->Nat->PV
 | 0,t=>e0 t
 | k+1,t=>if P k=true/\dst k=some t then v k else VU dst v e0 P k t
theorem MF {dst:Nat->Option Tmp} {v:Nat->PV} {e0:Nat->PV} {P:Nat->Bool} {t i:Nat}:∀ k,i<=k->(∀ j,i<=j->j < k->P j=true->dst j≠some t)->(∀ j,j < i->dst j=some t->P j=true) ->
 VU dst v e0 P k t=VU dst v e0 (fun _=>true) i t
 | 0,eb,_,_=>by
  obtain rfl:i=0:=by omega
  rfl
 | k+1,eb,h1,h2=>by
  by_cases hk:i=k+1
  · subst hk
    have ih:=MF (dst:=dst) (v:=v) (e0:=e0) (P:=P) (t:=t) (i:=k) k (Aa7 _) (fun j a b=>by omega) (fun j a b=>h2 j (by omega) b);simp only [VU];by_cases hd:dst k=some t
    · rw [if_pos ⟨h2 k (by omega) hd,hd⟩,if_pos ⟨trivial,hd⟩]
    · rw [if_neg (fun h=>hd h.2),if_neg (fun h=>hd h.2)]
      exact ih
  · simp only [VU]
    rw [if_neg (fun h=>h1 k (by omega) (by omega) h.1 h.2)];exact MF k (by omega) (fun j a b=>h1 j a (by omega)) h2
theorem cp {dst:Nat->Option Tmp} {v:Nat->PV} {e0:Nat->PV} {P P':Nat->Bool} {i:Nat} (mQ:∀ j,P' j=(P j || j == i)) {t:Nat}:∀ k,i < k->(∀ j,i < j->j < k->P j=true->dst i=some t->dst j≠some t) ->
 VU dst v e0 P' k t=if dst i=some t then v i else VU dst v e0 P k t
 | 0,eb,_=>by omega
 | k+1,eb,h1=>by
  have same:∀ k,k<=i->VU dst v e0 P' k t=VU dst v e0 P k t:=by
   intro k
   induction k with
   | zero=>intro _;rfl
   | succ k ih=>
    intro hk;simp only [VU];rw [mQ k,ih (by omega)];have:(k == i)=false:=by simp;omega
    rw [this,Aaa]
  by_cases hk:k=i
  · subst hk
    simp only [VU];rw [mQ k];by_cases hd:dst k=some t
    · rw [if_pos ⟨by simp,hd⟩,if_pos hd]
    · rw [if_neg (fun h=>hd h.2),if_neg hd,if_neg (fun h=>hd h.2)]
      exact same k (Aa7 _)
  · have ih:=cp mQ (v:=v) (e0:=e0) (dst:=dst) (t:=t) k (by omega) (fun j a b=>h1 j a (by omega))
    have hki:(k == i)=false:=by simpa using hk
    simp only [VU];rw [mQ k,hki,Aaa,ih];by_cases hp:P k=true/\dst k=some t
    · rw [if_pos hp,if_pos hp]
      by_cases hd:dst i=some t
      · exact absurd hp.2 (h1 k (by omega) (by omega) hp.1 hd)
      · rw [if_neg hd]
    · rw [if_neg hp,if_neg hp]
end Go.HH
