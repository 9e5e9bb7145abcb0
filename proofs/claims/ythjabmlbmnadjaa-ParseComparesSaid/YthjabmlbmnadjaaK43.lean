/-
  What the law needs, packed: UB UC UD UE UF.
-/
import Derived.Test.YthjabmlbmnadjaaK42
namespace Go.HH
open Go Go.Proofs
set_option maxRecDepth 100000
set_option linter.unusedVariables false
def edgeT (x y:Tk):Prop:=(x.1=y.1∧x.2.1=y.2.1)∨(x.1=0∧y.1=4∧y.2.1=[41])
def edgeL (L M:List Tk) (s j:Nat):Prop:=∀ k,k<=j->edgeT (tokAt L k) (tokAt M (k+s))
theorem edgeL.mono {L M:List Tk} {s j j':Nat} (h:edgeL L M s j) (hj:j'<=j):edgeL L M s j':=fun k hk=>h k (Nat.le_trans hk hj)
theorem bind_to {α β:Type} {r:PR α} {f:α->Nat->PR β} {a:α} {k:Nat} {x:PR β} (h:r=.ok a k) (h2:f a k=x):r.bind f=x:=by rw [h];exact h2
section
variable {L M:List Tk} {s:Nat}
theorem ed_isT {i k:Nat} {w:List UInt8} (h:edgeT (tokAt L i) (tokAt M (i+s))) (hk:k≠0) (hw:k≠4∨w≠[41]):isT M k w (i+s)=isT L k w i:=by
 unfold isT
 rcases h with ⟨h1,h2⟩ | ⟨h1,h2,h3⟩
 · rw [h1,h2]
 · rw [h1,h2,h3,show ((0:Nat) == k)=false from beq_eq_false_iff_ne.2 (Ne.symm hk),Bool.false_and]
   rcases hw with hw | hw
   · rw [show ((4:Nat) == k)=false from beq_eq_false_iff_ne.2 (Ne.symm hw),Bool.false_and]
   · rw [show (([41]:List UInt8) == w)=false from beq_eq_false_iff_ne.2 (Ne.symm hw),Bool.and_false]
theorem ed_same {i:Nat} (h:edgeT (tokAt L i) (tokAt M (i+s))) (h0:(tokAt L i).1≠0):(tokAt M (i+s)).1=(tokAt L i).1∧(tokAt M (i+s)).2.1=(tokAt L i).2.1:=by
 rcases h with ⟨h1,h2⟩ | ⟨h1,_⟩
 · exact ⟨h1.symm,h2.symm⟩
 · exact absurd h1 h0
theorem ed_kind {i c:Nat} (h:edgeT (tokAt L i) (tokAt M (i+s))) (hc:c≠0) (h4:c≠4):(tokAt M (i+s)).1=c↔(tokAt L i).1=c:=by
 rcases h with ⟨h1,h2⟩ | ⟨h1,h2,h3⟩
 · rw [h1]
 · rw [h1,h2]
   exact ⟨fun e=>absurd e.symm h4,fun e=>absurd e.symm hc⟩
theorem isT_kind {i k:Nat} {w:List UInt8} (h:isT L k w i=true):(tokAt L i).1=k:=by
 unfold isT at h
 rw [Bool.and_eq_true] at h
 exact beq_iff_eq.1 h.1
theorem ed_true {i k:Nat} {w:List UInt8} (h:edgeT (tokAt L i) (tokAt M (i+s))) (hk:k≠0) (hh:isT L k w i=true):isT M k w (i+s)=true:=by
 obtain ⟨h1,h2⟩:=ed_same h (by rw [isT_kind hh];exact hk)
 unfold isT at hh ⊢
 rw [h1,h2]
 exact hh
theorem ed_plain {i:Nat} (h:edgeT (tokAt L i) (tokAt M (i+s))) (h2:(tokAt L i).1=2->edgeT (tokAt L (i+1)) (tokAt M (i+1+s))):plainB M (i+s)=plainB L i:=by
 unfold plainB
 rw [show i+s+1=i+1+s from by omega]
 by_cases c:(tokAt L i).1=2
 · rw [ed_isT (h2 c) (by decide) (Or.inr (by decide)),c,(ed_kind h (by decide) (by decide)).2 c]
 · have c2:¬ (tokAt M (i+s)).1=2:=fun e=>c ((ed_kind h (by decide) (by decide)).1 e)
   rw [show ((tokAt L i).1 == 2)=false from beq_eq_false_iff_ne.2 c,show ((tokAt M (i+s)).1 == 2)=false from beq_eq_false_iff_ne.2 c2]
   rfl
theorem ed_pick {i k:Nat} (h:edgeT (tokAt L i) (tokAt M (i+s))) (hk:k≠0):∀ (l:List (List UInt8)) (n:Nat),(∀ w ∈ l,w≠[41])->pickW M k (i+s) l n=pickW L k i l n
 | [],_,_=>rfl
 | w :: l,n,hl=>by
  unfold pickW
  rw [ed_isT h hk (Or.inr (hl w (List.mem_cons_self ..))),ed_pick h hk l _ fun w hw=>hl w (List.mem_cons_of_mem _ hw)]
theorem mustP_mv {k:Nat} {w:List UInt8} {i:Nat} {a:Unit} {j:Nat} (hE:edgeL L M s i) (hk:k≠0) (h:mustP L k w i=.ok a j):mustP M k w (i+s)=.ok a (j+s):=by
 unfold mustP at h ⊢
 split at h
 · rename_i hh
   injection h with _ h
   rw [if_pos (ed_true (hE i (Nat.le_refl _)) hk hh),<- h,show i+s+1=i+1+s from by omega]
 · cases h
theorem nameP_mv {i:Nat} {a:List UInt8} {j:Nat} (hE:edgeL L M s i) (h:nameP L i=.ok a j):nameP M (i+s)=.ok a (j+s):=by
 unfold nameP at h ⊢
 split at h
 · rename_i hh
   obtain ⟨h1,h2⟩:=ed_same (hE i (Nat.le_refl _)) (by rw [hh];decide)
   split at h
   · rename_i hv
     injection h with ha hj
     rw [h1,h2,if_pos hh,if_pos hv,<- hj,<- ha,show i+s+1=i+1+s from by omega]
   · cases h
 · cases h
theorem numP_mv {lo hi' i:Nat} {a:Nat} {j:Nat} (hE:edgeL L M s i) (h:numP L lo hi' i=.ok a j):numP M lo hi' (i+s)=.ok a (j+s):=by
 unfold numP at h ⊢
 split at h
 · rename_i hh
   obtain ⟨h1,h2⟩:=ed_same (hE i (Nat.le_refl _)) (by rw [hh];decide)
   split at h
   · cases h
   · rename_i hv
     injection h with ha hj
     rw [h1,h2,if_pos hh,if_neg hv,<- hj,<- ha,show i+s+1=i+1+s from by omega]
 · cases h
theorem twoP_mv {hi' i:Nat} {a:Nat} {j:Nat} (hE:edgeL L M s i) (h:twoP L hi' i=.ok a j):twoP M hi' (i+s)=.ok a (j+s):=by
 unfold twoP at h ⊢
 split at h
 · cases h
 · rename_i hh
   rw [if_neg]
   · exact numP_mv hE h
   · rintro ⟨h1,h2⟩
     have h3:=(ed_kind (hE i (Nat.le_refl _)) (by decide) (by decide)).1 h1
     obtain ⟨_,h4⟩:=ed_same (hE i (Nat.le_refl _)) (by rw [h3];decide)
     rw [h4] at h2
     exact hh ⟨h3,h2⟩
theorem pathP_mv (hT:TokOK L) {i:Nat} (hi:i < L.length) {a:Ky} {j:Nat} (hE:edgeL L M s j) (h:pathP L i=.ok a j):pathP M (i+s)=.ok a (j+s):=by
 unfold pathP at h ⊢
 obtain ⟨_,i1,r1,h⟩:=bind_ok h
 obtain ⟨_,i2,r2,h⟩:=bind_ok h
 obtain ⟨_,i3,r3,h⟩:=bind_ok h
 obtain ⟨_,i4,r4,h⟩:=bind_ok h
 obtain ⟨_,i5,r5,h⟩:=bind_ok h
 have h1:=numP_lt hT hi r1
 have h2:=mustP_lt hT h1.2.1 (by decide) r2
 have h3:=nameP_lt hT h2.2 r3
 have h4:=mustP_lt hT h3.2 (by decide) r4
 have h5:=nameP_lt hT h4.2 r5
 injection h with ha hj
 subst ha hj
 exact bind_to (numP_mv (hE.mono (by omega)) r1) (bind_to (mustP_mv (hE.mono (by omega)) (by decide) r2) (bind_to (nameP_mv (hE.mono (by omega)) r3) (bind_to (mustP_mv (hE.mono (by omega)) (by decide) r4) (bind_to (nameP_mv (hE.mono (by omega)) r5) rfl))))
theorem clockP_mv (hT:TokOK L) {i:Nat} (hi:i < L.length) {a:Nat} {j:Nat} (hE:edgeL L M s j) (h:clockP L i=.ok a j):clockP M (i+s)=.ok a (j+s):=by
 unfold clockP at h ⊢
 obtain ⟨_,i1,r1,h⟩:=bind_ok h
 obtain ⟨_,i2,r2,h⟩:=bind_ok h
 obtain ⟨_,i3,r3,h⟩:=bind_ok h
 have h1:=twoP_lt hT hi r1
 have h2:=mustP_lt hT h1.2.1 (by decide) r2
 have h3:=twoP_lt hT h2.2 r3
 injection h with ha hj
 subst ha hj
 exact bind_to (twoP_mv (hE.mono (by omega)) r1) (bind_to (mustP_mv (hE.mono (by omega)) (by decide) r2) (bind_to (twoP_mv (hE.mono (by omega)) r3) rfl))
theorem dayP_mv {i:Nat} {a:Nat} {j:Nat} (hE:edgeL L M s i) (h:dayP L i=.ok a j):dayP M (i+s)=.ok a (j+s):=by
 unfold dayP at h ⊢
 rw [ed_pick (hE i (Nat.le_refl _)) (by decide) _ _ (by decide)]
 cases hp:pickW L 1 i dayWs 0 with
 | some k=>
  rw [hp] at h
  injection h with ha hj
  subst ha hj
  rw [show i+s+1=i+1+s from by omega]
 | none=>rw [hp] at h;cases h
theorem daysL_ge (hT:TokOK L):∀ (n m i a j:Nat),i < L.length->daysL L n m i=.ok a j->i < j
 | 0,_,_,_,_,_,h=>by cases h
 | n+1,m,i,a,j,hi,h=>by
  rw [daysL] at h
  obtain ⟨k,i1,r1,h⟩:=bind_ok h
  have h1:=dayP_lt' hT hi r1
  split at h
  · rename_i hk
    have:=daysL_ge hT n _ _ _ _ (isT_lt hT h1.2 hk (by decide)) h
    omega
  · injection h with _ h
    omega
theorem daysL_mv (hT:TokOK L):∀ (n n' m i a j:Nat),n<=n'->i < L.length->edgeL L M s j->daysL L n m i=.ok a j->daysL M n' m (i+s)=.ok a (j+s)
 | 0,_,_,_,_,_,_,_,_,h=>by cases h
 | n+1,0,_,_,_,_,hn,_,_,_=>by omega
 | n+1,n'+1,m,i,a,j,hn,hi,hE,h=>by
  have hge:=daysL_ge hT _ _ _ _ _ hi h
  rw [daysL] at h ⊢
  obtain ⟨k,i1,r1,h⟩:=bind_ok h
  have h1:=dayP_lt' hT hi r1
  refine bind_to (dayP_mv (hE.mono (by omega)) r1) ?_
  split at h
  · rename_i hk
    have h2:=isT_lt hT h1.2 hk (by decide)
    have h3:=daysL_ge hT _ _ _ _ _ h2 h
    rw [ed_true (hE i1 (by omega)) (by decide) hk,if_pos rfl,show i1+s+1=i1+1+s from by omega]
    exact daysL_mv hT n n' _ _ _ _ (by omega) h2 hE h
  · rename_i hk
    injection h with ha hj
    subst ha hj
    rw [ed_isT (hE i1 (by omega)) (by decide) (Or.inr (by decide)),if_neg hk]
theorem daysP_mv (hT:TokOK L) (hLM:L.length<=M.length) {i:Nat} (hi:i < L.length) {a:Nat} {j:Nat} (hE:edgeL L M s j) (h:daysP L i=.ok a j):daysP M (i+s)=.ok a (j+s):=by
 unfold daysP at h ⊢
 exact daysL_mv hT _ _ _ _ _ _ (by omega) hi hE h
theorem condP_mv (hT:TokOK L) (hLM:L.length<=M.length) {i:Nat} (hi:i < L.length) {a:Tr} {j:Nat} (hE:edgeL L M s j) (h:condP L i=.ok a j):condP M (i+s)=.ok a (j+s):=by
 have hg:=condP_lt hT hi h
 have e:=hE i (by omega)
 have eT:∀ w,isT M 1 w (i+s)=isT L 1 w i:=fun w=>ed_isT e (by decide) (Or.inl (by decide))
 unfold condP at h ⊢
 rw [eT,eT,eT,eT,eT,eT,show i+s+1=i+1+s from by omega,show i+s+2=i+2+s from by omega]
 split at h
 · rename_i hk
   injection h with ha hj
   subst ha hj
   rw [if_pos hk]
 rename_i hk1
 rw [if_neg hk1]
 split at h
 · rename_i hk
   injection h with ha hj
   subst ha hj
   rw [if_pos hk]
 rename_i hk2
 rw [if_neg hk2]
 split at h
 · rename_i hk
   have h0:=isT_lt hT hi hk (by decide)
   obtain ⟨_,i1,r1,h⟩:=bind_ok h
   obtain ⟨_,i2,r2,h⟩:=bind_ok h
   injection h with ha hj
   subst ha hj
   have h1:=mustP_lt hT h0 (by decide) r1
   have h2:=nameP_lt hT h1.2 r2
   rw [if_pos hk]
   exact bind_to (mustP_mv (hE.mono (by omega)) (by decide) r1) (bind_to (nameP_mv (hE.mono (by omega)) r2) rfl)
 rename_i hk3
 rw [if_neg hk3]
 split at h
 · rename_i hk
   have h0:=isT_lt hT hi hk (by decide)
   obtain ⟨_,i1,r1,h⟩:=bind_ok h
   obtain ⟨_,i2,r2,h⟩:=bind_ok h
   obtain ⟨_,i3,r3,h⟩:=bind_ok h
   injection h with ha hj
   subst ha hj
   have h1:=clockP_lt hT h0 r1
   have h2:=mustP_lt hT h1.2.1 (by decide) r2
   have h3:=clockP_lt hT h2.2 r3
   rw [if_pos hk]
   exact bind_to (clockP_mv hT h0 (hE.mono (by omega)) r1) (bind_to (mustP_mv (hE.mono (by omega)) (by decide) r2) (bind_to (clockP_mv hT h2.2 (hE.mono (by omega)) r3) rfl))
 rename_i hk4
 rw [if_neg hk4]
 split at h
 · rename_i hk
   have h0:=isT_lt hT hi hk (by decide)
   obtain ⟨_,i1,r1,h⟩:=bind_ok h
   injection h with ha hj
   subst ha hj
   have h1:=daysP_lt hT h0 r1
   rw [if_pos hk]
   exact bind_to (daysP_mv hT hLM h0 (hE.mono (by omega)) r1) rfl
 rename_i hk5
 rw [if_neg hk5]
 split at h
 · rename_i hk
   rw [if_pos hk,ed_pick (hE (i+1) (by omega)) (by decide) _ _ (by decide)]
   cases hp:pickW L 1 (i+1) roleWs 0 with
   | some k=>
    rw [hp] at h
    injection h with ha hj
    subst ha hj
    rfl
   | none=>
    rw [hp] at h
    injection h with ha hj
    subst ha hj
    rfl
 · cases h
def loopN:NT->Bool
 | .chainL _ _=>true
 | .sumL _=>true
 | .prodL _=>true
 | _=>false
theorem loop_opd (b:Bool):loopN (opdNT b)=false:=by cases b <;> rfl
theorem pz_gt (hT:TokOK L):∀ (n:Nat) (nt:NT) (o i:Nat) (a:Tr) (j:Nat),i < L.length->loopN nt=false->pz L n nt o i=.ok a j->i < j:=by
 intro n
 induction n with
 | zero=>intro nt o i a j hi hl h;cases h
 | succ n ih=>
  intro nt o i a j hi hl h
  have lt:=fun (nt:NT) (o i:Nat) (a:Tr) (j:Nat) hi (r:pz L n nt o i=.ok a j)=>pz_lt hT n nt o i a j hi r
  cases nt with
  | expr=>
   rw [pz] at h
   split at h
   · rename_i hk
     have h0:=isT_lt hT hi hk (by decide)
     split at h
     · obtain ⟨_,i1,r1,h⟩:=bind_ok h
       obtain ⟨_,i2,r2,h⟩:=bind_ok h
       obtain ⟨_,i3,r3,h⟩:=bind_ok h
       obtain ⟨_,i4,r4,h⟩:=bind_ok h
       obtain ⟨_,i5,r5,h⟩:=bind_ok h
       injection h with _ h
       have h1:=lt _ _ _ _ _ h0 r1
       have h2:=mustP_lt hT h1.2 (by decide) r2
       have h3:=lt _ _ _ _ _ h2.2 r3
       have h4:=mustP_lt hT h3.2 (by decide) r4
       have h5:=lt _ _ _ _ _ h4.2 r5
       omega
     · cases h
   · exact ih _ _ _ _ _ hi rfl h
  | chain b=>
   rw [pz] at h
   obtain ⟨_,i1,r1,h⟩:=bind_ok h
   have h1:=ih _ _ _ _ _ hi (loop_opd b) r1
   have h2:=lt _ _ _ _ _ (lt _ _ _ _ _ hi r1).2 h
   omega
  | not=>
   rw [pz] at h
   split at h
   · rename_i hk
     have h0:=isT_lt hT hi hk (by decide)
     split at h
     · obtain ⟨_,i1,r1,h⟩:=bind_ok h
       injection h with _ h
       have h1:=lt _ _ _ _ _ h0 r1
       omega
     · cases h
   · exact ih _ _ _ _ _ hi rfl h
  | cmp=>
   rw [pz] at h
   obtain ⟨_,i1,r1,h⟩:=bind_ok h
   have h1:=ih _ _ _ _ _ hi rfl r1
   have h2:=lt _ _ _ _ _ hi r1
   cases hp:pickW L 4 i1 cmpWs 0 with
   | some k=>
    rw [hp] at h
    obtain ⟨_,i3,r3,h⟩:=bind_ok h
    injection h with _ h
    obtain ⟨_,_,h4⟩:=pickW_lt hp
    have h5:=lt _ _ _ _ _ (isT_lt hT h2.2 h4 (by decide)) r3
    omega
   | none=>
    rw [hp] at h
    injection h with _ h
    omega
  | sum=>
   rw [pz] at h
   obtain ⟨_,i1,r1,h⟩:=bind_ok h
   have h1:=ih _ _ _ _ _ hi rfl r1
   have h2:=lt _ _ _ _ _ (lt _ _ _ _ _ hi r1).2 h
   omega
  | prod=>
   rw [pz] at h
   obtain ⟨_,i1,r1,h⟩:=bind_ok h
   have h1:=ih _ _ _ _ _ hi rfl r1
   have h2:=lt _ _ _ _ _ (lt _ _ _ _ _ hi r1).2 h
   omega
  | un=>
   rw [pz] at h
   split at h
   · rename_i hk
     have h0:=isT_lt hT hi hk (by decide)
     split at h
     · injection h with _ h
       omega
     split at h
     · obtain ⟨_,i1,r1,h⟩:=bind_ok h
       injection h with _ h
       have h1:=lt _ _ _ _ _ h0 r1
       omega
     · cases h
   · exact ih _ _ _ _ _ hi rfl h
  | prim=>
   rw [pz] at h
   split at h
   · injection h with _ h;omega
   split at h
   · obtain ⟨_,i1,r1,h⟩:=bind_ok h
     injection h with _ h
     have h1:=pathP_lt hT hi r1
     omega
   split at h
   · injection h with _ h;omega
   split at h
   · rename_i hk
     obtain ⟨_,i1,r1,h⟩:=bind_ok h
     injection h with _ h
     have h1:=numP_lt hT (isT_lt hT hi hk (by decide)) r1
     omega
   split at h
   · rename_i hk
     have h0:=isT_lt hT hi hk (by decide)
     split at h
     · obtain ⟨_,i1,r1,h⟩:=bind_ok h
       obtain ⟨_,i2,r2,h⟩:=bind_ok h
       injection h with _ h
       have h1:=lt _ _ _ _ _ h0 r1
       have h2:=mustP_lt hT h1.2 (by decide) r2
       omega
     · cases h
   · exact (condP_lt hT hi h).1
  | chainL b acc=>cases hl
  | sumL e=>cases hl
  | prodL e=>cases hl
theorem pz_mv (hT:TokOK L) (hLM:L.length<=M.length) {d:Nat}:∀ (n n':Nat) (nt:NT) (o i:Nat) (a:Tr) (j:Nat),n<=n'->i < L.length->edgeL L M s j->(d=0∨o+d+(j - i)<=101)->pz L n nt o i=.ok a j->pz M n' nt (o+d) (i+s)=.ok a (j+s):=by
 intro n
 induction n with
 | zero=>intro n' nt o i a j hn hi hE hd h;cases h
 | succ n ih=>
  intro n' nt o i a j hn hi hE hd h
  obtain ⟨m,rfl⟩:∃ m,n'=m+1:=⟨n' - 1,by omega⟩
  have hm:n<=m:=by omega
  have lt:=fun (nt:NT) (o i:Nat) (a:Tr) (j:Nat) hi (r:pz L n nt o i=.ok a j)=>pz_lt hT n nt o i a j hi r
  have gt:=fun (nt:NT) (o i:Nat) (a:Tr) (j:Nat) hi hl (r:pz L n nt o i=.ok a j)=>pz_gt hT n nt o i a j hi hl r
  have hij:=pz_lt hT _ _ _ _ _ _ hi h
  have hgt:=fun hl=>pz_gt hT _ nt _ _ _ _ hi hl h
  have e:=hE i hij.1
  have eT:∀ k w,k≠0->(k≠4∨w≠[41])->isT M k w (i+s)=isT L k w i:=fun k w h1 h2=>ed_isT e h1 h2
  have s1:i+s+1=i+1+s:=by omega
  have o1:o+d+1=o+1+d:=by omega
  cases nt with
  | expr=>
   rw [pz] at h ⊢
   rw [eT 1 _ (by decide) (Or.inl (by decide)),s1,o1]
   split at h
   · rename_i hk
     have h0:=isT_lt hT hi hk (by decide)
     rw [if_pos hk]
     split at h
     · obtain ⟨_,i1,r1,h⟩:=bind_ok h
       obtain ⟨_,i2,r2,h⟩:=bind_ok h
       obtain ⟨_,i3,r3,h⟩:=bind_ok h
       obtain ⟨_,i4,r4,h⟩:=bind_ok h
       obtain ⟨_,i5,r5,h⟩:=bind_ok h
       injection h with ha hj
       subst ha hj
       have h1:=lt _ _ _ _ _ h0 r1
       have h2:=mustP_lt hT h1.2 (by decide) r2
       have h3:=lt _ _ _ _ _ h2.2 r3
       have h4:=mustP_lt hT h3.2 (by decide) r4
       have h5:=lt _ _ _ _ _ h4.2 r5
       rw [if_pos (by omega)]
       exact bind_to (ih _ _ _ _ _ _ hm h0 (hE.mono (by omega)) (by omega) r1) (bind_to (mustP_mv (hE.mono (by omega)) (by decide) r2) (bind_to (ih _ _ _ _ _ _ hm h2.2 (hE.mono (by omega)) (by omega) r3) (bind_to (mustP_mv (hE.mono (by omega)) (by decide) r4) (bind_to (ih _ _ _ _ _ _ hm h4.2 (hE.mono (by omega)) (by omega) r5) rfl))))
     · cases h
   · rename_i hk
     rw [if_neg hk]
     exact ih _ _ _ _ _ _ hm hi hE hd h
  | chain b=>
   rw [pz] at h ⊢
   obtain ⟨_,i1,r1,h⟩:=bind_ok h
   have h1:=lt _ _ _ _ _ hi r1
   have h2:=lt _ _ _ _ _ h1.2 h
   exact bind_to (ih _ _ _ _ _ _ hm hi (hE.mono (by omega)) (by omega) r1) (ih _ _ _ _ _ _ hm h1.2 hE (by omega) h)
  | chainL b acc=>
   rw [pz] at h ⊢
   rw [eT 1 _ (by decide) (Or.inl (by decide)),s1]
   split at h
   · rename_i hk
     have h0:=isT_lt hT hi hk (by decide)
     rw [if_pos hk]
     split at h
     · cases h
     · rename_i h8
       rw [if_neg h8]
       obtain ⟨_,i1,r1,h⟩:=bind_ok h
       have h1:=lt _ _ _ _ _ h0 r1
       have h2:=lt _ _ _ _ _ h1.2 h
       exact bind_to (ih _ _ _ _ _ _ hm h0 (hE.mono (by omega)) (by omega) r1) (ih _ _ _ _ _ _ hm h1.2 hE (by omega) h)
   · rename_i hk
     rw [if_neg hk]
     injection h with ha hj
     subst ha hj
     rfl
  | not=>
   rw [pz] at h ⊢
   rw [eT 1 _ (by decide) (Or.inl (by decide)),s1,o1]
   split at h
   · rename_i hk
     have h0:=isT_lt hT hi hk (by decide)
     rw [if_pos hk]
     split at h
     · obtain ⟨_,i1,r1,h⟩:=bind_ok h
       injection h with ha hj
       subst ha hj
       have h1:=gt _ _ _ _ _ h0 rfl r1
       rw [if_pos (by omega)]
       exact bind_to (ih _ _ _ _ _ _ hm h0 hE (by omega) r1) rfl
     · cases h
   · rename_i hk
     rw [if_neg hk]
     exact ih _ _ _ _ _ _ hm hi hE hd h
  | cmp=>
   rw [pz] at h ⊢
   obtain ⟨_,i1,r1,h⟩:=bind_ok h
   have h1:=lt _ _ _ _ _ hi r1
   cases hp:pickW L 4 i1 cmpWs 0 with
   | some k=>
    rw [hp] at h
    obtain ⟨_,i3,r3,h⟩:=bind_ok h
    injection h with ha hj
    subst ha hj
    obtain ⟨_,_,h4⟩:=pickW_lt hp
    have h2:=isT_lt hT h1.2 h4 (by decide)
    have h5:=lt _ _ _ _ _ h2 r3
    refine bind_to (ih _ _ _ _ _ _ hm hi (hE.mono (by omega)) (by omega) r1) ?_
    rw [ed_pick (hE i1 (by omega)) (by decide) _ _ (by decide),hp,show i1+s+1=i1+1+s from by omega]
    exact bind_to (ih _ _ _ _ _ _ hm h2 hE (by omega) r3) rfl
   | none=>
    rw [hp] at h
    injection h with ha hj
    subst ha hj
    refine bind_to (ih _ _ _ _ _ _ hm hi hE hd r1) ?_
    rw [ed_pick (hE i1 (by omega)) (by decide) _ _ (by decide),hp]
  | sum=>
   rw [pz] at h ⊢
   obtain ⟨_,i1,r1,h⟩:=bind_ok h
   have h1:=lt _ _ _ _ _ hi r1
   have h2:=lt _ _ _ _ _ h1.2 h
   exact bind_to (ih _ _ _ _ _ _ hm hi (hE.mono (by omega)) (by omega) r1) (ih _ _ _ _ _ _ hm h1.2 hE (by omega) h)
  | sumL e0=>
   rw [pz] at h ⊢
   rw [eT 4 _ (by decide) (Or.inr (by decide)),eT 4 _ (by decide) (Or.inr (by decide)),s1]
   split at h
   · rename_i hk
     have h0:=isT_lt hT hi hk (by decide)
     rw [if_pos hk]
     obtain ⟨_,i1,r1,h⟩:=bind_ok h
     have h1:=lt _ _ _ _ _ h0 r1
     have h2:=lt _ _ _ _ _ h1.2 h
     exact bind_to (ih _ _ _ _ _ _ hm h0 (hE.mono (by omega)) (by omega) r1) (ih _ _ _ _ _ _ hm h1.2 hE (by omega) h)
   rename_i hk1
   rw [if_neg hk1]
   split at h
   · rename_i hk
     have h0:=isT_lt hT hi hk (by decide)
     rw [if_pos hk]
     obtain ⟨_,i1,r1,h⟩:=bind_ok h
     have h1:=lt _ _ _ _ _ h0 r1
     have h2:=lt _ _ _ _ _ h1.2 h
     exact bind_to (ih _ _ _ _ _ _ hm h0 (hE.mono (by omega)) (by omega) r1) (ih _ _ _ _ _ _ hm h1.2 hE (by omega) h)
   · rename_i hk
     rw [if_neg hk]
     injection h with ha hj
     subst ha hj
     rfl
  | prod=>
   rw [pz] at h ⊢
   obtain ⟨_,i1,r1,h⟩:=bind_ok h
   have h1:=lt _ _ _ _ _ hi r1
   have h2:=lt _ _ _ _ _ h1.2 h
   exact bind_to (ih _ _ _ _ _ _ hm hi (hE.mono (by omega)) (by omega) r1) (ih _ _ _ _ _ _ hm h1.2 hE (by omega) h)
  | prodL e0=>
   rw [pz] at h ⊢
   rw [eT 4 _ (by decide) (Or.inr (by decide)),s1]
   split at h
   · rename_i hk
     have h0:=isT_lt hT hi hk (by decide)
     rw [if_pos hk]
     obtain ⟨_,i1,r1,h⟩:=bind_ok h
     have h1:=lt _ _ _ _ _ h0 r1
     have h2:=lt _ _ _ _ _ h1.2 h
     exact bind_to (ih _ _ _ _ _ _ hm h0 (hE.mono (by omega)) (by omega) r1) (ih _ _ _ _ _ _ hm h1.2 hE (by omega) h)
   · rename_i hk
     rw [if_neg hk]
     injection h with ha hj
     subst ha hj
     rfl
  | un=>
   rw [pz] at h ⊢
   rw [eT 4 _ (by decide) (Or.inr (by decide)),s1,o1,show i+s+2=i+2+s from by omega]
   split at h
   · rename_i hk
     have h0:=isT_lt hT hi hk (by decide)
     rw [if_pos hk]
     split at h
     · rename_i hp
       injection h with ha hj
       subst ha hj
       have hk2:(tokAt L (i+1)).1=2:=by
        unfold plainB at hp
        rw [Bool.and_eq_true] at hp
        exact beq_iff_eq.1 hp.1
       rw [ed_plain (hE (i+1) (by omega)) (fun _=>hE (i+2) (by omega)),if_pos hp,(ed_same (hE (i+1) (by omega)) (by rw [hk2];decide)).2]
     · rename_i hp
       split at h
       · obtain ⟨_,i1,r1,h⟩:=bind_ok h
         injection h with ha hj
         subst ha hj
         have h1:=gt _ _ _ _ _ h0 rfl r1
         rw [ed_plain (hE (i+1) (by omega)) (fun _=>hE (i+2) (by omega)),if_neg hp,if_pos (by omega)]
         exact bind_to (ih _ _ _ _ _ _ hm h0 hE (by omega) r1) rfl
       · cases h
   · rename_i hk
     rw [if_neg hk]
     exact ih _ _ _ _ _ _ hm hi hE hd h
  | prim=>
   have hg:=hgt rfl
   rw [pz] at h ⊢
   rw [eT 4 _ (by decide) (Or.inr (by decide)),eT 4 _ (by decide) (Or.inr (by decide)),s1,o1,ed_plain e (fun _=>hE (i+1) (by omega))]
   split at h
   · rename_i hp
     injection h with ha hj
     subst ha hj
     have hk2:(tokAt L i).1=2:=by
      unfold plainB at hp
      rw [Bool.and_eq_true] at hp
      exact beq_iff_eq.1 hp.1
     rw [if_pos hp,(ed_same e (by rw [hk2];decide)).2]
   rename_i hk1
   rw [if_neg hk1]
   split at h
   · rename_i hk
     obtain ⟨_,i1,r1,h⟩:=bind_ok h
     injection h with ha hj
     subst ha hj
     rw [if_pos ((ed_kind e (by decide) (by decide)).2 hk)]
     exact bind_to (pathP_mv hT hi hE r1) rfl
   rename_i hk2
   rw [if_neg (fun x=>hk2 ((ed_kind e (by decide) (by decide)).1 x))]
   split at h
   · rename_i hk
     injection h with ha hj
     subst ha hj
     rw [if_pos ((ed_kind e (by decide) (by decide)).2 hk),(ed_same e (by rw [hk];decide)).2]
   rename_i hk3
   rw [if_neg (fun x=>hk3 ((ed_kind e (by decide) (by decide)).1 x))]
   split at h
   · rename_i hk
     have h0:=isT_lt hT hi hk (by decide)
     obtain ⟨_,i1,r1,h⟩:=bind_ok h
     injection h with ha hj
     subst ha hj
     have h1:=numP_lt hT h0 r1
     rw [if_pos hk]
     exact bind_to (numP_mv (hE.mono (by omega)) r1) rfl
   rename_i hk4
   rw [if_neg hk4]
   split at h
   · rename_i hk
     have h0:=isT_lt hT hi hk (by decide)
     rw [if_pos hk]
     split at h
     · obtain ⟨_,i1,r1,h⟩:=bind_ok h
       obtain ⟨_,i2,r2,h⟩:=bind_ok h
       injection h with ha hj
       subst ha hj
       have h1:=gt _ _ _ _ _ h0 rfl r1
       have h1':=lt _ _ _ _ _ h0 r1
       have h2:=mustP_lt hT h1'.2 (by decide) r2
       rw [if_pos (by omega)]
       exact bind_to (ih _ _ _ _ _ _ hm h0 (hE.mono (by omega)) (by omega) r1) (bind_to (mustP_mv (hE.mono (by omega)) (by decide) r2) rfl)
     · cases h
   rename_i hk5
   rw [if_neg hk5]
   exact condP_mv hT hLM hi hE h
end
end Go.HH
namespace Go.HH
open Go Go.Proofs
set_option maxRecDepth 100000
set_option linter.unusedSimpArgs false
set_option linter.unusedVariables false
def moK (n:Nat) (t:Tk):Tk:=(t.1,t.2.1,n+t.2.2)
def moO (n:Nat):Tk×Nat ⊕ Int->Tk×Nat ⊕ Int
 | .inl (t,k)=>.inl (moK n t,n+k)
 | .inr c=>.inr c
section
variable (p t:List UInt8)
theorem suf_len:(p++t).length=p.length+t.length:=List.length_append
theorem suf_drop (j:Nat):(p++t).drop (p.length+j)=t.drop j:=by
 rw [<- List.drop_drop,List.drop_append_of_le_length (Nat.le_refl _),List.drop_length,List.nil_append]
theorem atL_suf (j:Nat):atL (p++t) (p.length+j)=atL t j:=by
 unfold atL
 rw [List.getElem?_append_right (by omega),show p.length+j - p.length=j from by omega]
theorem runL_suf (q:Nat->Bool) (j:Nat):runL q (p++t) (p.length+j)=p.length+runL q t j:=by
 unfold runL
 rw [suf_drop];omega
theorem cut_suf (j k:Nat):((p++t).take (p.length+k)).drop (p.length+j)=(t.take k).drop j:=by
 rw [List.drop_take,suf_drop,List.drop_take]
 congr 1;omega
theorem opLen_suf (j:Nat):opLen (p++t) (p.length+j)=opLen t j:=by
 unfold opLen
 rw [atL_suf,Nat.add_assoc p.length,atL_suf]
theorem numL_suf (j:Nat):numL (p++t) (p.length+j)=(numL t j).map (p.length+·):=by
 unfold numL
 rw [runL_suf,suf_drop,show p.length+runL dg t j - (p.length+j)=runL dg t j - j from by omega,Option.map_map]
 rfl
theorem endQ_suf:∀ (m m' e:Nat),t.length - e < m->m<=m'->endQ m' (p++t) (p.length+e)=p.length+endQ m t e
 | 0,_,_,h,_=>by omega
 | m+1,0,_,_,h=>by omega
 | m+1,m'+1,e,h,h'=>by
  have hj:=suf_len p t
  unfold endQ
  rw [atL_suf]
  by_cases he:e < t.length∧atL t e≠34
  · rw [if_pos he,if_pos ⟨by omega,he.2⟩]
    by_cases d:atL t e=92
    · rw [if_pos d,if_pos d]
      cases m with
      | zero=>omega
      | succ m=>exact endQ_suf (m+1) m' (e+2) (by omega) (by omega)
    · rw [if_neg d,if_neg d]
      exact endQ_suf m m' (e+1) (by omega) (by omega)
  · rw [if_neg he,if_neg (fun x=>he ⟨by omega,x.2⟩)]
theorem strL_suf (j:Nat):strL (p++t) (p.length+j)=(strL t j).map fun x=>(x.1,p.length+x.2):=by
 have hj:=suf_len p t
 unfold strL
 simp only
 have he:=endQ_suf p t (t.length+1) ((p++t).length+1) (j+1) (by omega) (by omega)
 rw [show p.length+j+1=p.length+(j+1) from by omega,he,Nat.add_assoc (p.length) _ 1,cut_suf]
 by_cases c1:t.length<=endQ (t.length+1) t (j+1)
 · rw [if_pos c1,if_pos (by omega)];rfl
 · rw [if_neg c1,if_neg (by omega)]
   split <;> rfl
theorem oneL_suf {j:Nat}:oneL (p++t) (p.length+j)=moO (p.length) (oneL t j):=by
 unfold oneL
 simp only
 rw [atL_suf,runL_suf,numL_suf,strL_suf,opLen_suf,cut_suf,Nat.add_assoc (p.length),cut_suf]
 split
 · rfl
 · split
   · cases numL t j with
     | none=>rfl
     | some k=>
      simp only [Option.map_some]
      rw [cut_suf]
      rfl
   · split
     · cases strL t j with
       | none=>rfl
       | some x=>rfl
     · split <;> rfl
theorem sk_suf:∀ (d j:Nat),t.length - j<=d->j<=t.length->sk (p++t) (p.length+j)=p.length+sk t j:=by
 have hj:=suf_len p t
 intro d
 induction d with
 | zero=>
  intro j h hl
  rw [sk_eq (by omega),sk_eq hl,if_neg (by omega),if_neg (by omega)]
 | succ d ih=>
  intro j h hl
  rw [sk_eq (by omega),sk_eq hl,atL_suf,show p.length+j+1=p.length+(j+1) from by omega,atL_suf,runL_suf]
  by_cases c:j < t.length
  · rw [if_pos c,if_pos (by omega)]
    split
    · exact ih (j+1) (by omega) (by omega)
    · split
      · rename_i h35
        have hp:nl (atL t j)=true:=by rw [h35.1];rfl
        have h1:=runL_gt c hp
        have h2:=runL_le (p:=nl) (s:=t) (i:=j) hl
        exact ih (runL nl t j) (by omega) h2.2
      · rfl
  · rw [if_neg c,if_neg (by omega)]
def moR (n:Nat) (acc:List Tk) (r:List Tk×Nat×Int):List Tk×Nat×Int:=if r.2.2=0 then (acc++r.1.map (moK n),0,0) else ([],n+r.2.1,r.2.2)
theorem tk_suf (acc:List Tk):∀ (d j:Nat) (accT:List Tk),t.length - j<=d->j<=t.length->acc.length+accT.length+(t.length - j) < 4000 ->
 tk (p++t) (p.length+j) (acc++accT.map (moK (p.length)))=moR (p.length) acc (tk t j accT):=by
 have hj:=suf_len p t
 have hend:∀ accT j,j<=t.length->¬ j < t.length->tk (p++t) (p.length+j) (acc++accT.map (moK (p.length)))=moR (p.length) acc (tk t j accT):=fun accT j hl c=>by
  rw [tk_eq (s:=p++t) _ (by omega),tk_eq (s:=t) _ hl,if_neg c,if_neg (by omega)]
  unfold moR
  rw [if_pos rfl,List.map_append,List.append_assoc,hj]
  rfl
 intro d
 induction d with
 | zero=>intro j accT h hl ha;exact hend accT j hl (by omega)
 | succ d ih=>
  intro j accT h hl ha
  by_cases c:j < t.length
  · rw [tk_eq (s:=p++t) _ (by omega),tk_eq (s:=t) _ hl,if_pos c,if_pos (by omega),if_neg (by rw [List.length_append,List.length_map];omega),if_neg (by omega),oneL_suf]
    cases ho:oneL t j with
    | inr e=>
     have:=oneL_err ho
     unfold moR moO
     simp only
     rw [if_neg (by omega)]
    | inl x=>
     obtain ⟨u,k⟩:=x
     have hbd:=oneL_bd c ho
     have hle:=sk_le hbd.2
     unfold moO
     simp only
     rw [sk_suf p t t.length k (by omega) hbd.2]
     have h2:=ih (sk t k) (accT++[u]) (by omega) hle.2 (by rw [List.length_append,List.length_singleton];omega)
     rw [<- h2,List.map_append,List.append_assoc]
     rfl
  · exact hend accT j hl c
end
section
variable (s t:List UInt8)
def joinL:List UInt8:=s++10 :: t
theorem joinL_length:(joinL s t).length=s.length+1+t.length:=by
 unfold joinL
 rw [List.length_append,List.length_cons];omega
theorem joinL_drop {i:Nat} (h:i<=s.length):(joinL s t).drop i=s.drop i++10 :: t:=by
 unfold joinL
 exact List.drop_append_of_le_length h
theorem atL_join {i:Nat} (h:i < s.length):atL (joinL s t) i=atL s i:=by
 unfold atL joinL
 rw [List.getElem?_append_left h]
theorem atL_joinN:atL (joinL s t) s.length=10:=by
 unfold atL joinL
 rw [List.getElem?_append_right (Nat.le_refl _),Nat.sub_self]
 rfl
theorem atL_ge {i:Nat} (h:s.length<=i):atL s i=0:=by unfold atL;rw [List.getElem?_eq_none h]
theorem tw_join (p:UInt8->Bool) (hp:p 10=false):∀ (x:List UInt8),(x++10 :: t).takeWhile p=x.takeWhile p
 | []=>by rw [List.nil_append,List.takeWhile_cons,hp];rfl
 | c :: x=>by
  rw [List.cons_append,List.takeWhile_cons,List.takeWhile_cons,tw_join p hp x]
theorem runL_join {p:Nat->Bool} (hp:p 10=false) {i:Nat} (h:i<=s.length):runL p (joinL s t) i=runL p s i:=by
 unfold runL
 rw [joinL_drop s t h,tw_join t _ hp]
theorem cut_join {i k:Nat} (hk:k<=s.length):((joinL s t).take k).drop i=(s.take k).drop i:=by
 unfold joinL
 rw [List.take_append_of_le_length hk]
theorem opLen_join {i:Nat} (h:i < s.length):opLen (joinL s t) i=opLen s i:=by
 unfold opLen
 rw [atL_join s t h]
 by_cases h1:i+1 < s.length
 · rw [atL_join s t h1]
 · have:i+1=s.length:=by omega
   rw [this,atL_joinN,atL_ge s (Nat.le_refl _)]
   simp
theorem numL_join {i:Nat} (h:i<=s.length):numL (joinL s t) i=numL s i:=by
 unfold numL
 have h1:=runL_le (p:=dg) h
 rw [runL_join s t rfl h,joinL_drop s t h,List.take_append_of_le_length (by rw [List.length_drop];omega)]
theorem endQ_join:∀ (m m' e:Nat),s.length - e < m->m<=m'->endQ m s e < s.length->endQ m' (joinL s t) e=endQ m s e
 | 0,_,_,h,_,_=>by omega
 | m+1,0,_,_,h,_=>by omega
 | m+1,m'+1,e,h,h',hl=>by
  have hge:=endQ_ge (m+1) s e
  have he:e < s.length:=by omega
  have hj:=joinL_length s t
  unfold endQ at hl ⊢
  rw [atL_join s t he]
  by_cases c:atL s e≠34
  · have hc1:e < (joinL s t).length∧atL s e≠34:=⟨by omega,c⟩
    have hc2:e < s.length∧atL s e≠34:=⟨he,c⟩
    rw [if_pos hc2] at hl
    rw [if_pos hc1,if_pos hc2]
    by_cases d:atL s e=92
    · rw [if_pos d] at hl
      rw [if_pos d]
      cases m with
      | zero=>
       have:e+1=s.length:=by omega
       unfold endQ at hl
       omega
      | succ m=>exact endQ_join (m+1) m' (e+2) (by omega) (by omega) hl
    · rw [if_neg d] at hl
      rw [if_neg d]
      exact endQ_join m m' (e+1) (by omega) (by omega) hl
  · rw [if_neg (fun x=>c x.2),if_neg (fun x=>c x.2)]
theorem joinL_eq:joinL s t=(s++[10])++t:=by unfold joinL;rw [List.append_assoc];rfl
theorem len10:(s++[10]:List UInt8).length=s.length+1:=by rw [List.length_append];rfl
theorem sk_join2 (d j:Nat) (h:t.length - j<=d) (hl:j<=t.length):sk (joinL s t) (s.length+1+j)=s.length+1+sk t j:=by
 have:=sk_suf (s++[10]) t d j h hl
 rw [len10] at this
 rw [joinL_eq]
 exact this
theorem strL_join {i:Nat} (h:i < s.length) {x:List UInt8×Nat} (hx:strL s i=some x):strL (joinL s t) i=some x:=by
 have hj:=joinL_length s t
 unfold strL at hx ⊢
 simp only at hx ⊢
 split at hx
 · cases hx
 · rename_i hl
   have he:=endQ_join s t (s.length+1) ((joinL s t).length+1) (i+1) (by omega) (by omega) (by omega)
   rw [he,if_neg (by omega),cut_join s t (by omega)]
   exact hx
theorem endQ_joinN:∀ (m m' e:Nat),s.length - e < m->m < m'->s.length<=endQ m s e->s.length+1<=endQ m' (joinL s []) e
 | 0,_,_,h,_,_=>by omega
 | m+1,0,_,_,h,_=>by omega
 | m+1,m'+1,e,h,h',hl=>by
  have hj:=joinL_length s []
  rw [List.length_nil] at hj
  unfold endQ at hl ⊢
  by_cases he:e < s.length
  · rw [atL_join s [] he]
    by_cases c:atL s e≠34
    · rw [if_pos ⟨he,c⟩] at hl
      rw [if_pos ⟨by omega,c⟩]
      by_cases d:atL s e=92
      · rw [if_pos d] at hl ⊢
        cases m with
        | zero=>
         have h2:=endQ_ge m' (joinL s []) (e+2)
         omega
        | succ m=>exact endQ_joinN (m+1) m' (e+2) (by omega) (by omega) hl
      · rw [if_neg d] at hl ⊢
        cases m with
        | zero=>
         have:e+1=s.length:=by omega
         cases m' with
         | zero=>omega
         | succ m'=>
          unfold endQ
          rw [this,atL_joinN,if_pos ⟨by omega,by decide⟩,if_neg (by decide)]
          exact endQ_ge m' _ _
        | succ m=>exact endQ_joinN (m+1) m' (e+1) (by omega) (by omega) hl
    · rw [if_neg (fun x=>c x.2)] at hl
      omega
  · by_cases h1:e=s.length
    · rw [h1,atL_joinN,if_pos ⟨by omega,by decide⟩,if_neg (by decide)]
      exact endQ_ge m' _ _
    · rw [if_neg (by omega)]
      omega
theorem strL_joinN {i:Nat} (h:i < s.length) (hx:strL s i=none):strL (joinL s []) i=none:=by
 have hj:=joinL_length s []
 rw [List.length_nil] at hj
 unfold strL at hx ⊢
 simp only at hx ⊢
 by_cases hl:s.length<=endQ (s.length+1) s (i+1)
 · rw [if_pos]
   have:=endQ_joinN s (s.length+1) ((joinL s []).length+1) (i+1) (by omega) (by omega) hl
   omega
 · have he:=endQ_join s [] (s.length+1) ((joinL s []).length+1) (i+1) (by omega) (by omega) (by omega)
   rw [if_neg hl] at hx
   rw [he,if_neg (by omega),cut_join s [] (by omega)]
   exact hx
theorem oneL_join {i:Nat} (h:i < s.length) (h4:oneL s i≠.inr 4∨t=[]):oneL (joinL s t) i=oneL s i:=by
 have hpt:=runL_le (p:=pt) (s:=s) (i:=i) (by omega)
 have hdg:=runL_le (p:=dg) (s:=s) (i:=i) (by omega)
 have hol:=opLen_le h
 unfold oneL at h4 ⊢
 simp only at h4 ⊢
 rw [atL_join s t h,runL_join s t rfl (by omega),numL_join s t (by omega),opLen_join s t h,cut_join s t hpt.2,cut_join s t hol]
 split
 · rfl
 · rename_i c1
   rw [if_neg c1] at h4
   split
   · cases hn:numL s i with
     | none=>rfl
     | some k=>
      have hk:k<=s.length:=by
       unfold numL at hn
       obtain ⟨_,_,hn⟩:=Option.map_eq_some_iff.1 hn
       omega
      simp only
      rw [cut_join s t hk]
   · rename_i c2
     rw [if_neg c2] at h4
     split
     · rename_i c3
       rw [if_pos c3] at h4
       cases hn:strL s i with
       | none=>
        rcases h4 with h4 | rfl
        · rw [hn] at h4;exact absurd rfl h4
        · rw [strL_joinN s h hn]
       | some x=>rw [strL_join s t h hn]
     · rfl
theorem dg_join {i:Nat} (h:i < s.length):dg (atL (joinL s t) (i+1))=dg (atL s (i+1)):=by
 by_cases h1:i+1 < s.length
 · rw [atL_join s t h1]
 · have:i+1=s.length:=by omega
   rw [this,atL_joinN,atL_ge s (Nat.le_refl _)]
   rfl
theorem sk_join:∀ (d i:Nat),s.length - i<=d->i<=s.length->sk (joinL s t) i=if sk s i < s.length then sk s i else s.length+1+sk t 0:=by
 have hj:=joinL_length s t
 have hN:sk (joinL s t) s.length=s.length+1+sk t 0:=by
  rw [sk_eq (by omega),if_pos (by omega),atL_joinN,if_pos (Or.inr (Or.inr rfl))]
  exact sk_join2 s t t.length 0 (by omega) (by omega)
 intro d
 induction d with
 | zero=>
  intro i h hl
  have:i=s.length:=by omega
  subst this
  rw [hN,sk_eq (Nat.le_refl _),if_neg (by omega:¬ s.length < s.length),if_neg (by omega)]
 | succ d ih=>
  intro i h hl
  by_cases c:i < s.length
  · rw [sk_eq (s:=joinL s t) (by omega),sk_eq (s:=s) hl,if_pos c,if_pos (by omega:i < (joinL s t).length),atL_join s t c,dg_join s t c,runL_join s t rfl hl]
    split
    · exact ih (i+1) (by omega) (by omega)
    · split
      · rename_i h35
        have hp:nl (atL s i)=true:=by rw [h35.1];rfl
        have h1:=runL_gt c hp
        have h2:=runL_le (p:=nl) (s:=s) (i:=i) hl
        exact ih (runL nl s i) (by omega) h2.2
      · rfl
  · have:i=s.length:=by omega
    subst this
    rw [hN,sk_eq (Nat.le_refl _),if_neg (by omega:¬ s.length < s.length),if_neg (by omega)]
theorem tk_join:∀ (d i:Nat) (acc:List Tk),s.length - i<=d->i<=s.length->acc.length+(s.length - i) < 4000 ->
 ((tk s i acc).2.2≠0∧((tk s i acc).2.2≠4∨t=[])->tk (joinL s t) i acc=tk s i acc) ∧
 ((tk s i acc).2.2=0->∃ r,tk s i acc=(r++[(0,[],s.length)],0,0)∧r.length<=acc.length+(s.length - i)∧tk (joinL s t) (if i < s.length then i else s.length+1+sk t 0) acc=tk (joinL s t) (s.length+1+sk t 0) r):=by
 have hj:=joinL_length s t
 intro d
 induction d with
 | zero=>
  intro i acc h hl ha
  have:¬ i < s.length:=by omega
  rw [tk_eq (s:=s) _ hl,if_neg this,if_neg this]
  exact ⟨fun h=>absurd rfl h.1,fun _=>⟨acc,rfl,by omega,rfl⟩⟩
 | succ d ih=>
  intro i acc h hl ha
  by_cases c:i < s.length
  · rw [if_pos c,tk_eq (s:=joinL s t) _ (by omega),if_pos (by omega:i < (joinL s t).length),tk_eq (s:=s) _ hl,if_pos c,if_neg (by omega),if_neg (by omega)]
    cases ho:oneL s i with
    | inr e=>
     have he:=oneL_err ho
     refine ⟨fun h4=>?_,fun h0=>?_⟩
     · rw [oneL_join s t c (by rw [ho];exact h4.2.imp (fun h4 h5=>h4 (by injection h5)) id),ho]
     · simp only at h0;omega
    | inl x=>
     obtain ⟨u,k⟩:=x
     have hbd:=oneL_bd c ho
     have hle:=sk_le hbd.2
     rw [oneL_join s t c (.inl (by rw [ho];intro h5;cases h5)),ho]
     simp only
     have h2:=ih (sk s k) (acc++[u]) (by omega) hle.2 (by rw [List.length_append,List.length_singleton];omega)
     rw [sk_join s t s.length k (by omega) hbd.2]
     refine ⟨fun h4=>?_,fun h0=>?_⟩
     · have hlt:sk s k < s.length:=by
        rcases Nat.lt_or_ge (sk s k) s.length with h' | h'
        · exact h'
        · rw [tk_eq (s:=s) _ hle.2,if_neg (by omega)] at h4
          exact absurd rfl h4.1
       rw [if_pos hlt]
       exact h2.1 h4
     · obtain ⟨r,h3,h4,h5⟩:=h2.2 h0
       rw [List.length_append,List.length_singleton] at h4
       exact ⟨r,h3,by omega,h5⟩
  · have:¬ i < s.length:=c
    rw [tk_eq (s:=s) _ hl,if_neg this,if_neg this]
    exact ⟨fun h=>absurd rfl h.1,fun _=>⟨acc,rfl,by omega,rfl⟩⟩
theorem toks_eq {s:List UInt8} (h:s.length<=20000):toks s=tk s (sk s 0) []:=by unfold toks;rw [if_neg (by omega)];rfl
theorem toks_suf (p t:List UInt8) (acc:List Tk) (h:acc.length+t.length < 4000):tk (p++t) (p.length+sk t 0) acc=moR p.length acc (tk t (sk t 0) []):=by
 have hle:=sk_le (s:=t) (i:=0) (by omega)
 have:=tk_suf p t acc t.length (sk t 0) [] (by omega) hle.2 (by rw [List.length_nil];omega)
 rw [<- this,List.map_nil,List.append_nil]
theorem toks_join (s t:List UInt8) (hs:s.length<=3100) (ht:s.length+t.length<=3900) :
 ((toks s).2.2≠0∧((toks s).2.2≠4∨t=[])->toks (joinL s t)=toks s) ∧
 ((toks s).2.2=0->∃ r,toks s=(r++[(0,[],s.length)],0,0)∧r.length<=s.length∧toks (joinL s t)=moR (s.length+1) r (toks t)):=by
 have hj:=joinL_length s t
 rw [toks_eq (s:=s) (by omega),toks_eq (s:=t) (by omega),toks_eq (s:=joinL s t) (by omega),sk_join s t s.length 0 (by omega) (by omega)]
 have hle:=sk_le (s:=s) (i:=0) (by omega)
 have h:=tk_join s t s.length (sk s 0) [] (by omega) hle.2 (by rw [List.length_nil];omega)
 refine ⟨fun h4=>?_,fun h0=>?_⟩
 · have hl:sk s 0 < s.length:=by
    rcases Nat.lt_or_ge (sk s 0) s.length with h' | h'
    · exact h'
    · rw [tk_eq (s:=s) _ hle.2,if_neg (by omega)] at h4
      exact absurd rfl h4.1
   rw [if_pos hl]
   exact h.1 h4
 · obtain ⟨r,g1,g2,g3⟩:=h.2 h0
   rw [List.length_nil] at g2
   refine ⟨r,g1,by omega,?_⟩
   rw [g3]
   have h5:=toks_suf (s++[10]) t r (by omega)
   rw [len10,<- joinL_eq] at h5
   exact h5
end
end Go.HH
namespace Go.HH
open Go Go.Proofs
set_option maxRecDepth 100000
set_option linter.unusedSimpArgs false
set_option linter.unusedVariables false
theorem cutlen (s:List UInt8) (i k:Nat):((s.take k).drop i).length<=s.length:=by
 rw [List.length_drop,List.length_take];omega
theorem oneL_at {s:List UInt8} {i:Nat} {t:Tk} {k:Nat} (ho:oneL s i=.inl (t,k)):t.2.2=i∧(t.1=3∨t.2.1.length<=s.length):=by
 unfold oneL at ho
 simp only at ho
 split at ho
 · injection ho with ho
   injection ho with h1 h2
   subst h1
   exact ⟨rfl,.inr (cutlen s _ _)⟩
 · split at ho
   · split at ho
     · injection ho with ho
       injection ho with h1 h2
       subst h1
       exact ⟨rfl,.inr (cutlen s _ _)⟩
     · cases ho
   · split at ho
     · split at ho
       · injection ho with ho
         injection ho with h1 h2
         subst h1
         exact ⟨rfl,.inl rfl⟩
       · cases ho
     · split at ho
       · cases ho
       · injection ho with ho
         injection ho with h1 h2
         subst h1
         exact ⟨rfl,.inr (cutlen s _ _)⟩
theorem tk_at (s:List UInt8):∀ (d i:Nat) (acc:List Tk),s.length - i<=d->i<=s.length->(tk s i acc).2.1<=s.length∧∀ x ∈ (tk s i acc).1,x ∈ acc∨(x.2.2<=s.length∧(x.1=3∨x.2.1.length<=s.length)):=by
 have hend:∀ i acc,i<=s.length->¬ i < s.length->(tk s i acc).2.1<=s.length∧∀ x ∈ (tk s i acc).1,x ∈ acc∨(x.2.2<=s.length∧(x.1=3∨x.2.1.length<=s.length)):=fun i acc h hc=>by
  rw [tk_eq _ h,if_neg hc]
  refine ⟨Nat.zero_le _,fun x hx=>?_⟩
  rcases List.mem_append.1 hx with hx | hx
  · exact .inl hx
  · rw [List.mem_singleton] at hx
    subst hx
    exact .inr ⟨Nat.le_refl _,.inr (Nat.zero_le _)⟩
 intro d
 induction d with
 | zero=>intro i acc h hl;exact hend i acc hl (by omega)
 | succ d ih=>
  intro i acc h hl
  by_cases c:i < s.length
  · rw [tk_eq _ hl,if_pos c]
    split
    · exact ⟨hl,fun x hx=>by cases hx⟩
    · cases ho:oneL s i with
      | inr e=>exact ⟨hl,fun x hx=>by cases hx⟩
      | inl y=>
       obtain ⟨x,k⟩:=y
       have hbd:=oneL_bd c ho
       have hle:=sk_le hbd.2
       obtain ⟨g1,g2⟩:=oneL_at ho
       obtain ⟨f1,f2⟩:=ih (sk s k) (acc++[x]) (by omega) hle.2
       refine ⟨f1,fun z hz=>?_⟩
       rcases f2 z hz with hz | hz
       · rcases List.mem_append.1 hz with hz | hz
         · exact .inl hz
         · rw [List.mem_singleton] at hz
           subst hz
           exact .inr ⟨by omega,g2⟩
       · exact .inr hz
  · exact hend i acc hl c
theorem toks_at (s:List UInt8) (hs:s.length<=20000):(toks s).2.1<=s.length∧∀ x ∈ (toks s).1,x.2.2<=s.length∧(x.1=3∨x.2.1.length<=s.length):=by
 rw [toks_eq hs]
 have hle:=sk_le (s:=s) (i:=0) (by omega)
 obtain ⟨h1,h2⟩:=tk_at s s.length (sk s 0) [] (by omega) hle.2
 exact ⟨h1,fun x hx=>(h2 x hx).resolve_left (fun h=>by cases h)⟩
theorem chain_good:∀ {r:List Tk},chainT r->∀ x ∈ r,goodT x
 | [],_,_,h=>by cases h
 | y :: r,hc,x,h=>by
  rcases List.mem_cons.1 h with rfl | h
  · exact hc.1
  · exact chain_good hc.2.2 x h
theorem numR_amt:∀ (w:List UInt8) (n:Nat),n<=1099511627776->(numR w n).isSome=true->amtN w n<=1099511627776
 | [],n,h,_=>h
 | c :: r,n,h,hs=>by
  unfold numR at hs
  split at hs
  · cases hs
  · rename_i h1
    exact numR_amt r (10 * n+(c.toNat - 48)) (by omega) hs
theorem tokAt_mem {L:List Tk} (i:Nat):tokAt L i ∈ L∨tokAt L i=(0,[],0):=by
 unfold tokAt
 rw [List.getD_eq_getElem?_getD]
 cases h:L[i]? with
 | none=>exact .inr rfl
 | some x=>exact .inl (List.mem_of_getElem? h)
theorem toks_shape (s:List UInt8) (hs:s.length<=3900) (h0:(toks s).2.2=0):∃ r,toks s=(r++[(0,[],s.length)],0,0)∧chainT r∧r.length<=s.length:=by
 have hle:=sk_le (s:=s) (i:=0) (by omega)
 rw [toks_eq (by omega)] at h0 ⊢
 obtain ⟨r,g1,g2,g3,g4,_⟩:=toks_good s s.length (sk s 0) [] (by omega) hle.2 (sk_idem s _ 0 (Nat.le_refl _) (by omega)) h0
 rw [List.nil_append] at g1
 exact ⟨r,g1,g2,by omega⟩
theorem TokOK_of {s:List UInt8} (hs:s.length<=3900) {r:List Tk} (h:toks s=(r++[(0,[],s.length)],0,0)) (hc:chainT r) (hr:r.length<=s.length):TokOK (r++[(0,[],s.length)]):=by
 have hat:=(toks_at s (by omega)).2
 rw [h] at hat
 have hlen:(r++[(0,[],s.length)]).length=r.length+1:=by rw [List.length_append];rfl
 have hg:=chain_good hc
 have hgood:∀ x ∈ r++[(0,[],s.length)],x.1=0∧x.2.1=[]∨goodT x:=fun x hx=>by
  rcases List.mem_append.1 hx with hx | hx
  · exact .inr (hg x hx)
  · rw [List.mem_singleton] at hx
    subst hx
    exact .inl ⟨rfl,rfl⟩
 have hall:∀ i,tokAt (r++[(0,[],s.length)]) i=(0,[],0)∨(tokAt (r++[(0,[],s.length)]) i ∈ r++[(0,[],s.length)]):=fun i=>(tokAt_mem i).symm
 refine ⟨by omega,by omega,?_,fun i hi=>?_,fun i=>?_,fun i=>?_,fun i h3=>?_,fun i h2=>?_⟩
 · rw [hlen]
   unfold tokAt
   rw [List.getD_eq_getElem?_getD,List.getElem?_append_right (by omega),show r.length+1 - 1 - r.length=0 from by omega]
   rfl
 · have hi2:i < r.length:=by omega
   have:tokAt (r++[(0,[],s.length)]) i ∈ r:=by
    unfold tokAt
    rw [List.getD_eq_getElem?_getD,List.getElem?_append_left hi2,List.getElem?_eq_getElem hi2]
    exact List.getElem_mem hi2
   rcases hg _ this with h | h | h | h <;> (rw [h.1];decide)
 · unfold atT
   rcases hall i with h | h
   · rw [h];exact Nat.zero_le _
   · have:=(hat _ h).1;omega
 · rcases hall i with h | h
   · rw [h];exact Nat.zero_le _
   · rcases (hat _ h).2 with h3 | h3
     · rcases hgood _ h with h4 | h4 | h4 | h4 | h4
       · rw [h4.2];exact Nat.zero_le _
       · rw [h4.1] at h3;cases h3
       · rw [h4.1] at h3;cases h3
       · omega
       · rw [h4.1] at h3;cases h3
     · omega
 · rcases hall i with h | h
   · rw [h] at h3;cases h3
   · rcases hgood _ h with h4 | h4 | h4 | h4 | h4
     · rw [h4.1] at h3;cases h3
     · rw [h4.1] at h3;cases h3
     · rw [h4.1] at h3;cases h3
     · exact h4.2
     · rw [h4.1] at h3;cases h3
 · rcases hall i with h | h
   · rw [h] at h2;cases h2
   · rcases hgood _ h with h4 | h4 | h4 | h4 | h4
     · rw [h4.1] at h2;cases h2
     · rw [h4.1] at h2;cases h2
     · refine ⟨fun b hb=>?_,numR_amt _ 0 (by omega) h4.2.2.2⟩
       have:=h4.2.2.1 b hb
       unfold dg at this
       simpa using this
     · rw [h4.1] at h2;cases h2
     · rw [h4.1] at h2;cases h2
theorem toks_TokOK (s:List UInt8) (hs:s.length<=3900) (h0:(toks s).2.2=0):TokOK (toks s).1:=by
 obtain ⟨r,h1,h2,h3⟩:=toks_shape s hs h0
 have:=TokOK_of hs h1 h2 h3
 rw [h1]
 exact this
theorem exC_agg (t:Tr):PV.agg (exC t)=trV t:=by
 cases t with
 | mk k n m s v q kids=>rw [exC_mk];unfold trV;rfl
theorem op_parse_Expr (s:List UInt8) (hs:s.length<=3900) (bx:List PBox):callOp CC (callL CC) 14 [.str s] bx=some (.ret (.tup [trV (exprA s).1,.int .i64 ((exprA s).2.1:Int),.int .i64 (exprA s).2.2]),bx):=by
 have h:callL CC 14 [.str s] []=some (.ret (.tup [trV (exprA s).1,.int .i64 ((exprA s).2.1:Int),.int .i64 (exprA s).2.2]),[]):=by
  unfold exprA
  by_cases h0:(toks s).2.2=0
  · rw [if_pos h0]
    have hT:=toks_TokOK s hs h0
    have hw:=wholeP_out hT hT.pos
    cases hr:wholeP (toks s).1 (fuN (toks s).1) 0 with
    | out=>exact absurd hr hw
    | bad t c=>
     rw [call_Expr_bad s (by omega) h0 hT _ hr,exC_agg]
     rfl
    | ok a i=>
     simp only [PR.bind]
     cases h2:oneP (toks s).1 0 i with
     | out=>exact absurd h2 oneP_out
     | bad t c=>
      rw [call_Expr_bad2 s (by omega) h0 hT _ hr h2,exC_agg]
     | ok tk j=>
      rw [call_Expr_ok2 s (by omega) h0 hT _ hr h2,exC_agg]
      rfl
  · rw [if_neg h0,call_Expr_lex s (by omega) h0,exC_agg]
 refine callOp_of rfl (by simp only [SA,Bool.and_true]) h ?_
 simp only [PV.pure,pureL,trV_pure,Bool.and_true]
theorem op_parse_Rules (s:List UInt8) (hs:s.length<=3900) (bx:List PBox):callOp CC (callL CC) 9 [.str s] bx=some (.ret (.tup [.sl ((rulesA s).1.map rlP),.int .i64 ((rulesA s).2.1:Int),.int .i64 (rulesA s).2.2]),bx):=by
 have h:callL CC 9 [.str s] []=some (.ret (.tup [.sl ((rulesA s).1.map rlP),.int .i64 ((rulesA s).2.1:Int),.int .i64 (rulesA s).2.2]),[]):=by
  unfold rulesA
  by_cases h0:(toks s).2.2=0
  · rw [if_pos h0]
    have hT:=toks_TokOK s hs h0
    have hw:=rulesP_out hT 42 [] 0 hT.pos (by simp) (by simp)
    cases hr:rulesP (toks s).1 (fuN (toks s).1) 42 [] 0 with
    | out=>exact absurd hr hw
    | bad t c=>
     rw [call_Rules_bad s (by omega) h0 hT _ _ hr]
     rfl
    | ok l j=>
     cases l with
     | nil=>
      rw [call_Rules_nil s (by omega) h0 hT _ _ hr]
      rfl
     | cons x rs=>
      rw [call_Rules_cons s (by omega) h0 hT _ _ hr]
      rfl
  · rw [if_neg h0,call_Rules_lex s (by omega) h0]
    rfl
 refine callOp_of rfl (by simp only [SA,Bool.and_true]) h ?_
 simp only [PV.pure,pureL,map_pure rlP rlP_pure,Bool.and_true]
end Go.HH
namespace Go.HH
open Go Go.Proofs
set_option maxRecDepth 100000
set_option maxHeartbeats 4000000
set_option linter.unusedSimpArgs false
set_option linter.unusedVariables false
theorem ok_R28_Same:fnOK CC Try.f15 (Try.f15.body.getD .skip)=true:=by kernel_rfl
theorem fat_R28_Same:CC.P.funcs[15]?=some Try.f15:=by kernel_rfl
def RSm (t:Tr):Prop:=∃ bx,callL CC 15 [trV t,trV t] []=some (.ret (.bool true),bx)
theorem op_Sm {t:Tr} (h:RSm t) (bx):callOp CC (callL CC) 15 [trV t,trV t] bx=some (.ret (.bool true),bx):=by
 obtain ⟨q,hq⟩:=h
 exact callOp_of rfl (by simp only [pureL_cons,trV_pure,pureL_nil,Bool.and_self]) hq rfl
theorem loop_Sm (L:Code) (hL:L=fpart Try.f15 [1,1,0,1,0]) (a0 a1 a2 a3 a4 a5 a6 a7 a8 a9:PV) (l:List Tr) (hl:l.length<=12) (hk:∀ t ∈ l,RSm t):∀ (k i:Nat) (e:List PV),i+k=l.length->getT e 2=.bp 0 0->getT e 3=.bp 1 0->getT e 5=.int .i64 i->∃ e' bx',evL CC L ⟨e,[.cells 34 [a0,a1,a2,a3,a4,a5,a6,a7,a8,a9,.sl (trVs l)],.cells 34 [a0,a1,a2,a3,a4,a5,a6,a7,a8,a9,.sl (trVs l)]]⟩=some (.exit 0,⟨e',bx'⟩):=by
 intro k
 induction k with
 | zero=>
  intro i e hi0 e2 e3 e5
  rw [evL_at (fpart Try.f15 [1,1,0,1,0,0]) hL]
  have hi:¬ ((i:Int) < (l.length:Int)):=by omega
  have hln:=trVs_length l
  generalize trVs l=xs at *
  obtain ⟨ev,eo,so,co,⟨hev,hco⟩,R⟩:=RULES CC;rw [<- hev]
  simp only [fpart,part',Try.f15,Option.getD]
  simp only [S9,R,seval,nchP,dynR,eqgV,eqgK,Bool.not_not,e2,e3,e5,hln,hi]
  exact ⟨_,_,rfl⟩
 | succ k ih=>
  intro i e hi0 e2 e3 e5
  rw [evL_at (fpart Try.f15 [1,1,0,1,0,0]) hL]
  have hi:((i:Int) < (l.length:Int)):=by omega
  have hi0':¬ ((i:Int) < 0):=by omega
  have hx:l[i]?=some (l[i]'(by omega)):=by simp
  have hst:RSm (l[i]'(by omega)):=hk _ (List.getElem_mem _)
  generalize l[i]'(by omega)=x at *
  have hx':=trVs_get hx
  have hln:=trVs_length l
  have hw1:=wrap_i64 (n:=(i:Int)+1) ⟨by omega,by omega⟩
  have key:=fun e=>ih (i+1) e (by omega)
  have cast1:((i+1:Nat):Int)=(i:Int)+1:=by omega
  rw [cast1] at key
  have hop:=op_Sm hst
  obtain ⟨xk,xn,xm,xnm,xv,xkey,xkids⟩:=x
  unfold trV at hx' hop
  have hpy:=trVs_pure xkids
  generalize trVs xkids=ys at *
  generalize trVs l=xs at *
  obtain ⟨ev,eo,so,co,⟨hev,hco⟩,R⟩:=RULES CC;rw [<- hev]
  rw [<- hev] at key
  rw [<- hco] at hop
  simp only [fpart,part',Try.f15,Option.getD]
  simp only [S9,R,seval,nchP,dynR,eqgV,eqgK,Bool.not_not,e2,e3,e5,hln,hi,hi0',hx',hw1,hop,hpy,PV.pure,pureL]
  refine key _ ?_ ?_ ?_
  all_goals simp only [S7,R,seval,e2,e3,e5]
theorem node_Sm (k n m:Int) (nm:List UInt8) (v:Vl) (key:Ky) (kids:List Tr) (hl12:kids.length<=12) (hk:∀ t ∈ kids,RSm t):RSm (.mk k n m nm v key kids):=by
 obtain ⟨vk,vn,vs⟩:=v
 obtain ⟨dv,cl,at_⟩:=key
 have h1:∀ z:Int,(z != z)=false:=fun z=>by simp
 have h4:strP .neq nm nm=some (.bool false):=by rw [strP_neq];simp
 have h5:eqP CC 100 29 (.agg [.int .i64 vk,.int .i64 vn,.str vs]) (.agg [.int .i64 vk,.int .i64 vn,.str vs])=some true:=by rw [eqVP];simp
 have h6:eqP CC 100 31 (.agg [.int .i64 dv,.str cl,.str at_]) (.agg [.int .i64 dv,.str cl,.str at_])=some true:=by rw [eqKP];simp
 have hln:=trVs_length kids
 have hloop:=fun L hL a0 a1 a2 a3 a4 a5 a6 a7 a8 a9 e=>loop_Sm L hL a0 a1 a2 a3 a4 a5 a6 a7 a8 a9 kids hl12 hk kids.length 0 e (by omega)
 unfold RSm trV
 generalize trVs kids=xs at *
 rw [callL_enter (fn:=Try.f15) (c:=Try.f15.body.getD .skip) rfl rfl fat_R28_Same rfl ok_R28_Same (Nat.le_of_ble_eq_true rfl)]
 obtain ⟨ev,eo,so,co,⟨hev,hco⟩,R⟩:=RULES CC;rw [<- hev]
 rw [<- hev] at hloop
 simp only [fpart,part',Try.f15,Option.getD]
 simp only [S9,R,seval,nchP,dynR,eqgV,eqgK,Bool.not_not,h1,h4,h5,h6]
 generalize hE:ev (Code.loop _) _=z
 have hP:∃ e' bx',z=some (.exit 0,⟨e',bx'⟩):=by
  rw [<- hE]
  refine hloop _ rfl _ _ _ _ _ _ _ _ _ _ _ ?_ ?_ ?_
  all_goals first | (simp only [S7,R,seval];done) | (simp only [S7,R,seval] <;> rfl)
 obtain ⟨e',bx',he⟩:=hP
 subst he
 simp only [S8,R,seval]
 exact ⟨_,rfl⟩
mutual
theorem call_Sm (t:Tr) (hs:shT t):RSm t:=by
 match t,hs with
 | .mk k n m nm v key kids,hs=>
  have h2:shTs kids:=by unfold shT at hs;exact hs.2
  exact node_Sm k n m nm v key kids (by unfold shT at hs;exact hs.1.2.2.2.2) (calls_Sm kids h2)
theorem calls_Sm (l:List Tr) (hs:shTs l):∀ t ∈ l,RSm t:=by
 match l,hs with
 | [],_=>intro t ht;simp at ht
 | x :: r,hs=>
  intro t ht
  unfold shTs at hs
  rcases List.mem_cons.1 ht with h | h
  · rw [h];exact call_Sm x hs.1
  · exact calls_Sm r hs.2 t h
end
theorem op_Same_refl (t:Tr) (hs:shT t) (bx):callOp CC (callL CC) 15 [trV t,trV t] bx=some (.ret (.bool true),bx):=op_Sm (call_Sm t hs) bx
end Go.HH
namespace Go.HH
open Go Go.Proofs
set_option maxRecDepth 100000
set_option maxHeartbeats 4000000
set_option linter.unusedSimpArgs false
set_option linter.unusedVariables false
theorem ok_R29_SameTrigger:fnOK CC Try.f31 (Try.f31.body.getD .skip)=true:=by kernel_rfl
theorem fat_R29_SameTrigger:CC.P.funcs[31]?=some Try.f31:=by kernel_rfl
theorem ok_R29_SameStep:fnOK CC Try.f32 (Try.f32.body.getD .skip)=true:=by kernel_rfl
theorem fat_R29_SameStep:CC.P.funcs[32]?=some Try.f32:=by kernel_rfl
theorem ok_R29_Same:fnOK CC Try.f13 (Try.f13.body.getD .skip)=true:=by kernel_rfl
theorem fat_R29_Same:CC.P.funcs[13]?=some Try.f13:=by kernel_rfl
def andO (x:Option Bool) (y:Option Bool):Option Bool:=match x with
 | some true=>y
 | o=>o
theorem andO_t (y:Option Bool):andO (some true) y=y:=rfl
theorem eqgT:CC.P.eqGuardType CC.P.depth 59=false:=by kernel_rfl
theorem eqTP (k d1 d2 n m k' d1' d2' n' m':Int) (a1 b1 a2 b2 s a1' b1' a2' b2' s':List UInt8):eqP CC 100 59 (.agg [.int .i64 k,.int .i64 d1,.str a1,.str b1,.int .i64 d2,.str a2,.str b2,.str s,.int .i64 n,.int .i64 m]) (.agg [.int .i64 k',.int .i64 d1',.str a1',.str b1',.int .i64 d2',.str a2',.str b2',.str s',.int .i64 n',.int .i64 m'])
 = andO (some (k == k')) (andO (andO (some (d1 == d1')) (andO (some (a1 == a1')) (andO (some (b1 == b1')) (some true)))) (andO (andO (some (d2 == d2')) (andO (some (a2 == a2')) (andO (some (b2 == b2')) (some true)))) (andO (some (s == s')) (andO (some (n == n')) (andO (some (m == m')) (some true)))))):=by kernel_rfl
theorem eqT_refl (t:Tg):eqP CC 100 59 (tgV t) (tgV t)=some true:=by
 unfold tgV
 rw [eqTP]
 simp only [beq_self_eq_true,andO_t]
theorem loop_STg (L:Code) (hL:L=fpart Try.f31 [1,1,0,1,0]) (l:List Tg) (hl:l.length<=100):∀ (k i:Nat) (e:List PV) (bx:List PBox),i+k=l.length->getT e 0=.sl (l.map tgV)->getT e 1=.sl (l.map tgV)->getT e 5=.int .i64 i->∃ e' bx',evL CC L ⟨e,bx⟩=some (.exit 0,⟨e',bx'⟩):=by
 intro k
 induction k with
 | zero=>
  intro i e bx hi0 e0 e1 e5
  rw [evL_at (fpart Try.f31 [1,1,0,1,0,0]) hL]
  have hi:¬ ((i:Int) < (l.length:Int)):=by omega
  have hln:(l.map tgV).length=l.length:=List.length_map ..
  generalize l.map tgV=xs at *
  obtain ⟨ev,eo,so,co,⟨hev,hco⟩,R⟩:=RULES CC;rw [<- hev]
  simp only [fpart,part',Try.f31,Option.getD]
  simp only [S9,R,seval,nchP,dynR,eqgV,eqgK,eqgT,Bool.not_not,e0,e1,e5,hln,hi]
  exact ⟨_,_,rfl⟩
 | succ k ih=>
  intro i e bx hi0 e0 e1 e5
  rw [evL_at (fpart Try.f31 [1,1,0,1,0,0]) hL]
  have hi:((i:Int) < (l.length:Int)):=by omega
  have hi0':¬ ((i:Int) < 0):=by omega
  have hx:l[i]?=some (l[i]'(by omega)):=by simp
  have hx':(l.map tgV)[i]?=some (tgV (l[i]'(by omega))):=by rw [List.getElem?_map,hx];rfl
  have heq:=eqT_refl (l[i]'(by omega))
  generalize l[i]'(by omega)=x at *
  have hln:(l.map tgV).length=l.length:=List.length_map ..
  have hw1:=wrap_i64 (n:=(i:Int)+1) ⟨by omega,by omega⟩
  have key:=fun e bx=>ih (i+1) e bx (by omega)
  have cast1:((i+1:Nat):Int)=(i:Int)+1:=by omega
  rw [cast1] at key
  generalize l.map tgV=xs at *
  unfold tgV at hx' heq
  obtain ⟨ev,eo,so,co,⟨hev,hco⟩,R⟩:=RULES CC;rw [<- hev]
  rw [<- hev] at key
  simp only [fpart,part',Try.f31,Option.getD]
  simp only [S9,R,seval,nchP,dynR,eqgV,eqgK,eqgT,Bool.not_not,e0,e1,e5,hln,hi,hi0',hx',hw1,heq]
  refine key _ _ ?_ ?_ ?_
  all_goals simp only [S7,R,seval,e0,e1,e5]
theorem call_STg (l:List Tg) (hl:l.length<=100):∃ bx,callL CC 31 [.sl (l.map tgV),.sl (l.map tgV)] []=some (.ret (.bool true),bx):=by
 have hloop:=fun L hL e bx=>loop_STg L hL l hl l.length 0 e bx (by omega)
 generalize l.map tgV=xs at *
 have h7:((xs.length:Int) != (xs.length:Int))=false:=by simp
 rw [callL_enter (fn:=Try.f31) (c:=Try.f31.body.getD .skip) rfl rfl fat_R29_SameTrigger rfl ok_R29_SameTrigger (Nat.le_of_ble_eq_true rfl)]
 obtain ⟨ev,eo,so,co,⟨hev,hco⟩,R⟩:=RULES CC;rw [<- hev]
 rw [<- hev] at hloop
 simp only [fpart,part',Try.f31,Option.getD]
 simp only [S9,R,seval,nchP,dynR,eqgV,eqgK,eqgT,Bool.not_not,h7]
 generalize hE:ev (Code.loop _) _=z
 have hP:∃ e' bx',z=some (.exit 0,⟨e',bx'⟩):=by
  rw [<- hE]
  refine hloop _ rfl _ _ ?_ ?_ ?_
  all_goals first | (simp only [S7,R,seval];done) | (simp only [S7,R,seval] <;> rfl)
 obtain ⟨e',bx',he⟩:=hP
 subst he
 simp only [S8,R,seval]
 exact ⟨_,rfl⟩
theorem op_STg (l:List Tg) (hl:l.length<=100) (bx):callOp CC (callL CC) 31 [.sl (l.map tgV),.sl (l.map tgV)] bx=some (.ret (.bool true),bx):=by
 obtain ⟨q,hq⟩:=call_STg l hl
 have hp:pureL (l.map tgV)=true:=map_pure tgV tgV_pure l
 exact callOp_of rfl (by simp only [pureL_cons,PV.pure,hp,pureL_nil,Bool.and_self]) hq rfl
theorem loop_SSp (L:Code) (hL:L=fpart Try.f32 [1,1,0,1,0]) (l:List Sp) (hl:l.length<=100) (hs:∀ x ∈ l,shT x.ex):∀ (k i:Nat) (e:List PV) (bx:List PBox),i+k=l.length->getT e 0=.sl (l.map spV)->getT e 1=.sl (l.map spV)->getT e 5=.int .i64 i->∃ e' bx',evL CC L ⟨e,bx⟩=some (.exit 0,⟨e',bx'⟩):=by
 intro k
 induction k with
 | zero=>
  intro i e bx hi0 e0 e1 e5
  rw [evL_at (fpart Try.f32 [1,1,0,1,0,0]) hL]
  have hi:¬ ((i:Int) < (l.length:Int)):=by omega
  have hln:(l.map spV).length=l.length:=List.length_map ..
  generalize l.map spV=xs at *
  obtain ⟨ev,eo,so,co,⟨hev,hco⟩,R⟩:=RULES CC;rw [<- hev]
  simp only [fpart,part',Try.f32,Option.getD]
  simp only [S9,R,seval,nchP,dynR,eqgV,eqgK,eqgT,Bool.not_not,e0,e1,e5,hln,hi]
  exact ⟨_,_,rfl⟩
 | succ k ih=>
  intro i e bx hi0 e0 e1 e5
  rw [evL_at (fpart Try.f32 [1,1,0,1,0,0]) hL]
  have hi:((i:Int) < (l.length:Int)):=by omega
  have hi0':¬ ((i:Int) < 0):=by omega
  have hx:l[i]?=some (l[i]'(by omega)):=by simp
  have hx':(l.map spV)[i]?=some (spV (l[i]'(by omega))):=by rw [List.getElem?_map,hx];rfl
  have hop:=op_Same_refl (l[i]'(by omega)).ex (hs _ (List.getElem_mem _))
  generalize l[i]'(by omega)=x at *
  have hln:(l.map spV).length=l.length:=List.length_map ..
  have hw1:=wrap_i64 (n:=(i:Int)+1) ⟨by omega,by omega⟩
  have key:=fun e bx=>ih (i+1) e bx (by omega)
  have cast1:((i+1:Nat):Int)=(i:Int)+1:=by omega
  rw [cast1] at key
  obtain ⟨pk,⟨dv,cl,at_⟩,pn,xk,xn,xm,xnm,xv,xkey,xkids⟩:=x
  have h1:∀ z:Int,(z != z)=false:=fun z=>by simp
  have h4:strP .neq pn pn=some (.bool false):=by rw [strP_neq];simp
  have h6:eqP CC 100 31 (.agg [.int .i64 dv,.str cl,.str at_]) (.agg [.int .i64 dv,.str cl,.str at_])=some true:=by rw [eqKP];simp
  generalize l.map spV=xs at *
  unfold spV spC at hx'
  rw [exC_mk] at hx'
  unfold trV at hop
  have hpy:=trVs_pure xkids
  generalize trVs xkids=ys at *
  simp only [List.cons_append,List.nil_append] at hx' hop
  obtain ⟨ev,eo,so,co,⟨hev,hco⟩,R⟩:=RULES CC;rw [<- hev]
  rw [<- hev] at key
  rw [<- hco] at hop
  simp only [fpart,part',Try.f32,Option.getD]
  simp only [S9,R,seval,nchP,dynR,eqgV,eqgK,eqgT,Bool.not_not,e0,e1,e5,hln,hi,hi0',hx',hw1,h1,h4,h6,hop,hpy,PV.pure,pureL]
  refine key _ _ ?_ ?_ ?_
  all_goals simp only [S7,R,seval,e0,e1,e5]
theorem call_SSp (l:List Sp) (hl:l.length<=100) (hs:∀ x ∈ l,shT x.ex):∃ bx,callL CC 32 [.sl (l.map spV),.sl (l.map spV)] []=some (.ret (.bool true),bx):=by
 have hloop:=fun L hL e bx=>loop_SSp L hL l hl hs l.length 0 e bx (by omega)
 generalize l.map spV=xs at *
 have h7:((xs.length:Int) != (xs.length:Int))=false:=by simp
 rw [callL_enter (fn:=Try.f32) (c:=Try.f32.body.getD .skip) rfl rfl fat_R29_SameStep rfl ok_R29_SameStep (Nat.le_of_ble_eq_true rfl)]
 obtain ⟨ev,eo,so,co,⟨hev,hco⟩,R⟩:=RULES CC;rw [<- hev]
 rw [<- hev] at hloop
 simp only [fpart,part',Try.f32,Option.getD]
 simp only [S9,R,seval,nchP,dynR,eqgV,eqgK,eqgT,Bool.not_not,h7]
 generalize hE:ev (Code.loop _) _=z
 have hP:∃ e' bx',z=some (.exit 0,⟨e',bx'⟩):=by
  rw [<- hE]
  refine hloop _ rfl _ _ ?_ ?_ ?_
  all_goals first | (simp only [S7,R,seval];done) | (simp only [S7,R,seval] <;> rfl)
 obtain ⟨e',bx',he⟩:=hP
 subst he
 simp only [S8,R,seval]
 exact ⟨_,rfl⟩
theorem op_SSp (l:List Sp) (hl:l.length<=100) (hs:∀ x ∈ l,shT x.ex) (bx):callOp CC (callL CC) 32 [.sl (l.map spV),.sl (l.map spV)] bx=some (.ret (.bool true),bx):=by
 obtain ⟨q,hq⟩:=call_SSp l hl hs
 have hp:pureL (l.map spV)=true:=map_pure spV spV_pure l
 exact callOp_of rfl (by simp only [pureL_cons,PV.pure,hp,pureL_nil,Bool.and_self]) hq rfl
def shR (r:Rl):Prop:=r.on.length<=100∧r.dos.length<=100∧shT r.ife∧∀ x ∈ r.dos,shT x.ex
theorem loop_SRl (L:Code) (hL:L=fpart Try.f13 [1,1,0,1,0]) (l:List Rl) (hl:l.length<=100) (hs:∀ x ∈ l,shR x):∀ (k i:Nat) (e:List PV) (bx:List PBox),i+k=l.length->getT e 0=.sl (l.map rlP)->getT e 1=.sl (l.map rlP)->getT e 5=.int .i64 i->∃ e' bx',evL CC L ⟨e,bx⟩=some (.exit 0,⟨e',bx'⟩):=by
 intro k
 induction k with
 | zero=>
  intro i e bx hi0 e0 e1 e5
  rw [evL_at (fpart Try.f13 [1,1,0,1,0,0]) hL]
  have hi:¬ ((i:Int) < (l.length:Int)):=by omega
  have hln:(l.map rlP).length=l.length:=List.length_map ..
  generalize l.map rlP=xs at *
  obtain ⟨ev,eo,so,co,⟨hev,hco⟩,R⟩:=RULES CC;rw [<- hev]
  simp only [fpart,part',Try.f13,Option.getD]
  simp only [S9,R,seval,nchP,dynR,eqgV,eqgK,eqgT,Bool.not_not,e0,e1,e5,hln,hi]
  exact ⟨_,_,rfl⟩
 | succ k ih=>
  intro i e bx hi0 e0 e1 e5
  rw [evL_at (fpart Try.f13 [1,1,0,1,0,0]) hL]
  have hi:((i:Int) < (l.length:Int)):=by omega
  have hi0':¬ ((i:Int) < 0):=by omega
  have hx:l[i]?=some (l[i]'(by omega)):=by simp
  have hx':(l.map rlP)[i]?=some (rlP (l[i]'(by omega))):=by rw [List.getElem?_map,hx];rfl
  have hsh:=hs _ (List.getElem_mem (h:=(by omega:i < l.length)))
  generalize l[i]'(by omega)=x at *
  have hln:(l.map rlP).length=l.length:=List.length_map ..
  have hw1:=wrap_i64 (n:=(i:Int)+1) ⟨by omega,by omega⟩
  have key:=fun e bx=>ih (i+1) e bx (by omega)
  have cast1:((i+1:Nat):Int)=(i:Int)+1:=by omega
  rw [cast1] at key
  obtain ⟨nm,pr,on,ife,dos⟩:=x
  obtain ⟨s1,s2,s3,s4⟩:=hsh
  simp only at s1 s2 s3 s4
  have hop:=op_Same_refl ife s3
  have hop1:=op_STg on s1
  have hop2:=op_SSp dos s2 s4
  have hp1:pureL (on.map tgV)=true:=map_pure tgV tgV_pure on
  have hp2:pureL (dos.map spV)=true:=map_pure spV spV_pure dos
  obtain ⟨xk,xn,xm,xnm,xv,xkey,xkids⟩:=ife
  have h1:∀ z:Int,(z != z)=false:=fun z=>by simp
  have h4:strP .neq nm nm=some (.bool false):=by rw [strP_neq];simp
  generalize l.map rlP=xs at *
  simp only [rlP,rcs] at hx'
  unfold trV at hop
  have hpy:=trVs_pure xkids
  generalize trVs xkids=ys at *
  generalize on.map tgV=os at *
  generalize dos.map spV=ds at *
  obtain ⟨ev,eo,so,co,⟨hev,hco⟩,R⟩:=RULES CC;rw [<- hev]
  rw [<- hev] at key
  rw [<- hco] at hop hop1 hop2
  simp only [fpart,part',Try.f13,Option.getD]
  simp only [List.append_eq,List.cons_append,List.nil_append]
  simp only [S9,R,seval,nchP,dynR,eqgV,eqgK,eqgT,Bool.not_not,e0,e1,e5,hln,hi,hi0',hx',hw1,h1,h4,hop,hop1,hop2,hpy,hp1,hp2,PV.pure,pureL]
  refine key _ _ ?_ ?_ ?_
  all_goals simp only [S7,R,seval,e0,e1,e5]
theorem call_SRl (l:List Rl) (hl:l.length<=100) (hs:∀ x ∈ l,shR x):∃ bx,callL CC 13 [.sl (l.map rlP),.sl (l.map rlP)] []=some (.ret (.bool true),bx):=by
 have hloop:=fun L hL e bx=>loop_SRl L hL l hl hs l.length 0 e bx (by omega)
 generalize l.map rlP=xs at *
 have h7:((xs.length:Int) != (xs.length:Int))=false:=by simp
 rw [callL_enter (fn:=Try.f13) (c:=Try.f13.body.getD .skip) rfl rfl fat_R29_Same rfl ok_R29_Same (Nat.le_of_ble_eq_true rfl)]
 obtain ⟨ev,eo,so,co,⟨hev,hco⟩,R⟩:=RULES CC;rw [<- hev]
 rw [<- hev] at hloop
 simp only [fpart,part',Try.f13,Option.getD]
 simp only [S9,R,seval,nchP,dynR,eqgV,eqgK,eqgT,Bool.not_not,h7]
 generalize hE:ev (Code.loop _) _=z
 have hP:∃ e' bx',z=some (.exit 0,⟨e',bx'⟩):=by
  rw [<- hE]
  refine hloop _ rfl _ _ ?_ ?_ ?_
  all_goals first | (simp only [S7,R,seval];done) | (simp only [S7,R,seval] <;> rfl)
 obtain ⟨e',bx',he⟩:=hP
 subst he
 simp only [S8,R,seval]
 exact ⟨_,rfl⟩
theorem op_R29_Same (l:List Rl) (hl:l.length<=100) (hs:∀ x ∈ l,shR x) (bx):callOp CC (callL CC) 13 [.sl (l.map rlP),.sl (l.map rlP)] bx=some (.ret (.bool true),bx):=by
 obtain ⟨q,hq⟩:=call_SRl l hl hs
 have hp:pureL (l.map rlP)=true:=map_pure rlP rlP_pure l
 exact callOp_of rfl (by simp only [pureL_cons,PV.pure,hp,pureL_nil,Bool.and_self]) hq rfl
end Go.HH
