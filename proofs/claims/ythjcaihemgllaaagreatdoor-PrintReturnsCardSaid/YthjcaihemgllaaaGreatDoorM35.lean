/-
  What the law needs, packed: SA PA SB E0 VB VQP VDP V11Q T1 SC E3 T2 E8 E9.
-/
import Derived.Test.YthjcaihemgllaaaGreatDoorM34
namespace Go.HH
open Go Go.Proofs
set_option maxRecDepth 100000
set_option linter.unusedSimpArgs false
set_option linter.unusedVariables false
theorem tw_append {p:UInt8->Bool}:∀ (w R:List UInt8),(∀ b ∈ w,p b=true)->(∀ c r,R=c :: r->p c=false)->(w++R).takeWhile p=w
 | [],[],_,_=>rfl
 | [],c :: r,_,h=>by
  show (c :: r).takeWhile p=[]
  rw [List.takeWhile_cons,h c r rfl]
  rfl
 | b :: w,R,h1,h2=>by
  rw [List.cons_append,List.takeWhile_cons,h1 b (by simp),if_pos rfl,tw_append w R (fun x hx=>h1 x (by simp [hx])) h2]
theorem runL_take {p:Nat->Bool} {t:List UInt8} {j:Nat} {w R:List UInt8} (h:t.drop j=w++R) (h1:∀ b ∈ w,p b.toNat=true) (h2:∀ c r,R=c :: r->p c.toNat=false):runL p t j=j+w.length:=by
 unfold runL
 rw [h,tw_append w R h1 h2]
theorem drop_len {t:List UInt8} {j:Nat} {w:List UInt8} (h:t.drop j=w) (hw:w≠[]):t.length=j+w.length∧j < t.length:=by
 have h1:(t.drop j).length=w.length:=by rw [h]
 rw [List.length_drop] at h1
 have h2:0 < w.length:=List.length_pos_iff.2 hw
 omega
theorem take_drop_of {t:List UInt8} {j:Nat} {w R:List UInt8} (h:t.drop j=w++R):(t.take (j+w.length)).drop j=w:=by
 rw [List.drop_take,Nat.add_sub_cancel_left,h,List.take_left]
theorem atL_of {t:List UInt8} {j:Nat} {c:UInt8} {r:List UInt8} (h:t.drop j=c :: r):atL t j=c.toNat:=by
 have:=atL_drop t j 0
 rw [Nat.add_zero,h] at this
 exact this
def hd0:List UInt8->Nat
 | []=>0
 | d :: _=>d.toNat
theorem atL_of1 {t:List UInt8} {j:Nat} {c:UInt8} {R:List UInt8} (h:t.drop j=c :: R):atL t (j+1)=hd0 R:=by
 have:=atL_drop t j 1
 rw [h] at this
 rw [this]
 cases R <;> rfl
theorem eQ_form {s:List UInt8} {i:Nat} {c:UInt8} {r:List UInt8} (h:s.drop i=formL c++r):eQ s i=eQ s (i+(formL c).length):=by
 have hlen:(s.drop i).length=(formL c++r).length:=by rw [h]
 rw [List.length_drop,List.length_append] at hlen
 have a0:=atL_drop s i 0
 have a2:=atL_drop s i 2
 have a3:=atL_drop s i 3
 rw [h] at a0 a2 a3
 rw [Nat.add_zero] at a0
 rcases form_cases c with ⟨h1,h2⟩ | ⟨h1,h2,h3⟩ | ⟨x,y,h1,h2,h3,h4⟩
 · rw [h2] at a0 hlen ⊢
   have a0:atL s i=92:=a0
   have hlen:s.length - i=2+r.length:=hlen
   rw [eQ_eq,a0,if_pos ⟨by omega,by decide⟩,if_pos rfl]
   rfl
 · rw [h3] at a0 hlen ⊢
   have a0:atL s i=c.toNat:=a0
   have hlen:s.length - i=1+r.length:=hlen
   rw [eQ_eq,a0,if_pos ⟨by omega,h1⟩,if_neg h2]
   rfl
 · rw [h1] at a0 a2 a3 hlen ⊢
   have a0:atL s i=92:=a0
   have a2:atL s (i+2)=x.toNat:=a2
   have a3:atL s (i+3)=y.toNat:=a3
   have hlen:s.length - i=4+r.length:=hlen
   have ne:∀ z:UInt8,0<=hexV z->z.toNat≠34∧z.toNat≠92:=fun z hz=>by
    unfold hexV hexN at hz
    split at hz
    · omega
    · split at hz
      · omega
      · omega
   have nx:=ne x h2
   have ny:=ne y h3
   rw [eQ_eq,a0,if_pos ⟨by omega,by decide⟩,if_pos rfl,eQ_eq,a2,if_pos ⟨by omega,nx.1⟩,if_neg nx.2,show i+2+1=i+3 from rfl,eQ_eq,a3,if_pos ⟨by omega,ny.1⟩,if_neg ny.2]
   rfl
theorem eQ_quote (s:List UInt8):∀ (t:List UInt8) (i:Nat) (r:List UInt8),s.drop i=t.flatMap formL++34 :: r->eQ s i=i+(t.flatMap formL).length
 | [],i,r,h=>by
  have h:s.drop i=34 :: r:=h
  rw [eQ_eq,atL_of h,if_neg (fun h=>h.2 rfl)]
  rfl
 | c :: t,i,r,h=>by
  rw [List.flatMap_cons,List.append_assoc] at h
  rw [eQ_form h,eQ_quote s t (i+(formL c).length) r (by rw [<- List.drop_drop,h,List.drop_left]),List.flatMap_cons,List.length_append,Nat.add_assoc]
theorem sm_pt {n:Nat} (h:sm n=true):pt n=true:=by unfold pt;rw [h];rfl
theorem op1_ne:∀ n:_root_.Fin 256,op1 n.val=true->sm n.val=false∧dg n.val=false∧n.val≠34∧n.val≠32∧n.val≠9∧n.val≠10:=by decide +kernel
theorem op2_ne:∀ n:_root_.Fin 256,op2 n.val=true->sm n.val=false∧dg n.val=false∧n.val≠34∧n.val≠32∧n.val≠9∧n.val≠10∧n.val≠35:=by decide +kernel
theorem sm_ne:∀ n:_root_.Fin 256,sm n.val=true->n.val≠32∧n.val≠9∧n.val≠10∧n.val≠35:=by decide +kernel
def bk:List UInt8->Bool
 | []=>true
 | c :: _=>!pt c.toNat && c != 61
theorem bk_app {a b:List UInt8} (ha:bk a=true) (hb:bk b=true):bk (a++b)=true:=by
 cases a with
 | nil=>exact hb
 | cons c r=>exact ha
theorem bk_hd {t:List UInt8} (h:bk t=true):hd0 t≠61∧∀ c r,t=c :: r->pt c.toNat=false:=by
 cases t with
 | nil=>exact ⟨by decide,fun _ _ h=>by cases h⟩
 | cons c r=>
  unfold bk at h
  rw [Bool.and_eq_true,Bool.not_eq_true',bne_iff_ne] at h
  refine ⟨fun h2=>h.2 ?_,fun d q e=>?_⟩
  · rw [<- UInt8.toNat_inj];exact h2
  · injection e with e1 e2;subst e1;exact h.1
theorem pt_dg {n:Nat} (h:pt n=false):dg n=false:=by
 unfold pt at h
 rw [Bool.or_eq_false_iff,Bool.or_eq_false_iff,Bool.or_eq_false_iff] at h
 exact h.1.1.2
def kt (t:Tk):Nat×List UInt8:=(t.1,t.2.1)
def TK (s:List UInt8) (i:Nat) (acc:List Tk):List Tk×Nat×Int:=tk s (sk s i) acc
def Lo (w:List UInt8) (ts:List (Nat×List UInt8)):Prop:=∀ (p t:List UInt8) (acc:List Tk),(TK (p++(w++t)) p.length acc).2.2=0 ->
 ∃ us:List Tk,us.map kt=ts∧TK (p++(w++t)) p.length acc=TK (p++(w++t)) (p.length+w.length) (acc++us)
def Lx (w:List UInt8) (ts:List (Nat×List UInt8)):Prop:=∀ (p t:List UInt8) (acc:List Tk),bk t=true->(TK (p++(w++t)) p.length acc).2.2=0 ->
 ∃ us:List Tk,us.map kt=ts∧TK (p++(w++t)) p.length acc=TK (p++(w++t)) (p.length+w.length) (acc++us)
theorem Lo.lx {w ts} (h:Lo w ts):Lx w ts:=fun p t acc _ h0=>h p t acc h0
theorem lx_nil:Lo [] []:=fun p t acc _=>⟨[],rfl,by rw [List.append_nil];rfl⟩
theorem lx_app {a b A B} (ha:Lx a A) (hb:Lx b B) (h:bk b=true):Lx (a++b) (A++B):=fun p t acc ht h0=>by
 have e:p++(a++b++t)=p++(a++(b++t)):=by rw [List.append_assoc a]
 rw [e] at h0 ⊢
 obtain ⟨us,e1,e2⟩:=ha p (b++t) acc (bk_app h ht) h0
 rw [e2] at h0 ⊢
 rw [<- List.append_assoc,<- List.length_append] at h0 ⊢
 obtain ⟨vs,e3,e4⟩:=hb (p++a) t (acc++us) ht h0
 exact ⟨us++vs,by rw [List.map_append,e1,e3],by rw [e4,List.append_assoc acc,List.length_append,List.length_append,Nat.add_assoc]⟩
theorem lo_app {a b A B} (ha:Lo a A) (hb:Lx b B):Lx (a++b) (A++B):=fun p t acc ht h0=>by
 have e:p++(a++b++t)=p++(a++(b++t)):=by rw [List.append_assoc a]
 rw [e] at h0 ⊢
 obtain ⟨us,e1,e2⟩:=ha p (b++t) acc h0
 rw [e2] at h0 ⊢
 rw [<- List.append_assoc,<- List.length_append] at h0 ⊢
 obtain ⟨vs,e3,e4⟩:=hb (p++a) t (acc++us) ht h0
 exact ⟨us++vs,by rw [List.map_append,e1,e3],by rw [e4,List.append_assoc acc,List.length_append,List.length_append,Nat.add_assoc]⟩
theorem drop_pre (p w t:List UInt8):(p++(w++t)).drop p.length=w++t:=List.drop_left
theorem tk_one {s:List UInt8} {j:Nat} {acc:List Tk} {k:Nat} {u:Tk} (hj:j < s.length) (hs:sk s j=j) (ho:oneL s j=.inl (u,k)) (h0:(TK s j acc).2.2=0):TK s j acc=TK s k (acc++[u]):=by
 unfold TK at h0 ⊢
 rw [hs,tk_eq _ (by omega),if_pos hj] at h0 ⊢
 by_cases c:acc.length=4000
 · rw [if_pos c] at h0;cases h0
 · rw [if_neg c,ho]
theorem tk_bad {s:List UInt8} {j:Nat} {acc:List Tk} {e:Int} (hj:j < s.length) (hs:sk s j=j) (ho:oneL s j=.inr e):(TK s j acc).2.2≠0:=by
 have he:=oneL_err ho
 unfold TK
 rw [hs,tk_eq _ (by omega),if_pos hj]
 by_cases c:acc.length=4000
 · rw [if_pos c];exact (by decide:(3:Int)≠0)
 · rw [if_neg c,ho]
   show e≠0
   omega
theorem sk_of {t:List UInt8} {j n:Nat} (hl:j < t.length) (hn:atL t j=n) (h1:n≠32) (h2:n≠9) (h3:n≠10) (h4:¬ (n=35∧dg (atL t (j+1))=false)):sk t j=j:=by
 rw [sk_eq (by omega),if_pos hl,hn,if_neg (by omega),if_neg h4]
theorem oneL_def (t:List UInt8) (j:Nat):oneL t j=if sm (atL t j) then .inl ((1,(t.take (runL pt t j)).drop j,j),runL pt t j)
 else if dg (atL t j) then (match numL t j with
  | some k=>.inl ((2,(t.take k).drop j,j),k)
  | none=>.inr 2)
 else if atL t j=34 then (match strL t j with
  | some (u,k)=>.inl ((3,u,j),k)
  | none=>.inr 4)
 else if opLen t j=0 then .inr 12
 else .inl ((4,(t.take (j+opLen t j)).drop j,j),j+opLen t j):=rfl
def wordB:List UInt8->Bool
 | []=>false
 | c :: r=>sm c.toNat && r.all fun b=>pt b.toNat
theorem lx_word {w:List UInt8} (h:wordB w=true):Lx w [(1,w)]:=fun p t acc ht h0=>by
 have hd:=drop_pre p w t
 cases w with
 | nil=>cases h
 | cons c r=>
  unfold wordB at h
  rw [Bool.and_eq_true,List.all_eq_true] at h
  have hl:=drop_len hd (by simp)
  have e1:atL (p++(c :: r++t)) p.length=c.toNat:=atL_of hd
  have hrun:=runL_take (p:=pt) hd (fun b hb=>by
   rcases List.mem_cons.1 hb with rfl | hb
   · exact sm_pt h.1
   · exact h.2 b hb) (bk_hd ht).2
  have n1:=sm_ne ⟨c.toNat,UInt8.toNat_lt c⟩ h.1
  have htd:=take_drop_of hd
  generalize p++(c :: r++t)=s at *
  have ho:oneL s p.length=.inl ((1,c :: r,p.length),p.length+(c :: r).length):=by
   rw [oneL_def,e1,if_pos h.1,hrun,htd]
  exact ⟨[(1,c :: r,p.length)],rfl,tk_one hl.2 (sk_of hl.2 e1 n1.1 n1.2.1 n1.2.2.1 (fun h=>n1.2.2.2 h.1)) ho h0⟩
def dgB (w:List UInt8):Bool:=!w.isEmpty && w.all fun b=>dg b.toNat
theorem lx_num {w:List UInt8} (h:dgB w=true):Lx w [(2,w)]:=fun p t acc ht h0=>by
 have hd:=drop_pre p w t
 cases w with
 | nil=>cases h
 | cons c r=>
  unfold dgB at h
  rw [Bool.and_eq_true,List.all_eq_true] at h
  have hc:=h.2 c (by simp)
  have hl:=drop_len hd (by simp)
  have e1:atL (p++(c :: r++t)) p.length=c.toNat:=atL_of hd
  have hrun:=runL_take (p:=dg) hd h.2 (fun c q e=>pt_dg ((bk_hd ht).2 c q e))
  have n1:=dg_ne ⟨c.toNat,UInt8.toNat_lt c⟩ hc
  have htd:=take_drop_of hd
  generalize p++(c :: r++t)=s at *
  have hs:=sk_of hl.2 e1 n1.2.2.1 n1.2.2.2.1 n1.2.2.2.2.1 (fun h=>n1.2.2.2.2.2 h.1)
  cases hn:numL s p.length with
  | none=>
   have ho:oneL s p.length=.inr 2:=by rw [oneL_def,e1,n1.1,if_neg (by simp),if_pos hc,hn]
   exact absurd h0 (tk_bad hl.2 hs ho)
  | some k=>
   have hk:k=p.length+(c :: r).length:=by
    unfold numL at hn
    obtain ⟨v,_,hv⟩:=Option.map_eq_some_iff.1 hn
    rw [<- hv,hrun]
   subst hk
   have ho:oneL s p.length=.inl ((2,c :: r,p.length),p.length+(c :: r).length):=by
    rw [oneL_def,e1,n1.1,if_neg (by simp),if_pos hc,hn]
    simp only
    rw [htd]
   exact ⟨[(2,c :: r,p.length)],rfl,tk_one hl.2 hs ho h0⟩
theorem lx_str {w:List UInt8} (h60:w.length<=60):Lo (quoteL w) [(3,w)]:=fun p t acc h0=>by
 have hd:=drop_pre p (quoteL w) t
 have e0:(p++(quoteL w++t)).drop p.length=34 :: (w.flatMap formL++34 :: t):=by rw [hd];unfold quoteL;simp
 have hl:=drop_len e0 (by simp)
 have e1:atL (p++(quoteL w++t)) p.length=34:=atL_of e0
 have htd:=take_drop_of hd
 generalize p++(quoteL w++t)=s at *
 have e2:s.drop (p.length+1)=w.flatMap formL++34 :: t:=by rw [<- List.drop_drop,e0];rfl
 have hq:=eQ_quote s w (p.length+1) t e2
 have hql:=quoteL_length w
 have hlen:s.length=p.length+(1+((w.flatMap formL).length+(1+t.length))):=by
  rw [hl.1,List.length_cons,List.length_append,List.length_cons];omega
 have hstr:strL s p.length=some (w,p.length+(quoteL w).length):=by
  have hd:strL s p.length=if s.length<=eQ s (p.length+1) then none else if (unq ((s.take (eQ s (p.length+1)+1)).drop p.length)).2≠0 then none else some ((unq ((s.take (eQ s (p.length+1)+1)).drop p.length)).1,eQ s (p.length+1)+1):=rfl
  rw [hd,hq,show p.length+1+(w.flatMap formL).length+1=p.length+(quoteL w).length from by omega,htd,unq_quote,if_neg (by omega:¬ w.length > 60),if_neg (by omega),if_neg (by simp)]
 have ho:oneL s p.length=.inl ((3,w,p.length),p.length+(quoteL w).length):=by
  rw [oneL_def,e1,if_neg (by decide),if_neg (by decide),if_pos rfl,hstr]
 exact ⟨[(3,w,p.length)],rfl,tk_one hl.2 (sk_of hl.2 e1 (by decide) (by decide) (by decide) (fun h=>absurd h.1 (by decide))) ho h0⟩
theorem op_at {c:UInt8} {p t:List UInt8} {acc:List Tk} (ho1:op1 c.toNat=true) (h35:c=35->dg (hd0 t)=true) (h61:op2 c.toNat=true->hd0 t≠61) (h0:(TK (p++([c]++t)) p.length acc).2.2=0) :
 TK (p++([c]++t)) p.length acc=TK (p++([c]++t)) (p.length+1) (acc++[(4,[c],p.length)]):=by
 have hd:=drop_pre p [c] t
 have hl:=drop_len hd (by simp)
 have e1:atL (p++([c]++t)) p.length=c.toNat:=atL_of hd
 have e2:atL (p++([c]++t)) (p.length+1)=hd0 t:=atL_of1 hd
 have htd:=take_drop_of hd
 generalize p++([c]++t)=s at *
 have n1:=op1_ne ⟨c.toNat,UInt8.toNat_lt c⟩ ho1
 have hol:opLen s p.length=1:=by unfold opLen;rw [if_neg (fun h=>h61 (by rw [<- e1];exact h.2) (by rw [<- e2];exact h.1)),e1,if_pos ho1]
 have ho:oneL s p.length=.inl ((4,[c],p.length),p.length+1):=by
  rw [oneL_def,e1,n1.1,n1.2.1,hol,if_neg (by simp),if_neg (by simp),if_neg n1.2.2.1,if_neg (by decide)]
  rw [show p.length+1=p.length+[c].length from rfl,htd]
 exact tk_one hl.2 (sk_of hl.2 e1 n1.2.2.2.1 n1.2.2.2.2.1 n1.2.2.2.2.2 (fun h=>by
  have:=h35 (by rw [<- UInt8.toNat_inj];exact h.1)
  rw [<- e2,h.2] at this;cases this)) ho h0
theorem lo_op {c:UInt8} (h:(op1 c.toNat && !op2 c.toNat && c != 35)=true):Lo [c] [(4,[c])]:=fun p t acc h0=>by
 rw [Bool.and_eq_true,Bool.and_eq_true,Bool.not_eq_true',bne_iff_ne] at h
 exact ⟨[(4,[c],p.length)],rfl,op_at h.1.1 (fun e=>absurd e h.2) (fun e=>by rw [h.1.2] at e;cases e) h0⟩
theorem lx_op {c:UInt8} (h:(op1 c.toNat && c != 35)=true):Lx [c] [(4,[c])]:=fun p t acc ht h0=>by
 rw [Bool.and_eq_true,bne_iff_ne] at h
 exact ⟨[(4,[c],p.length)],rfl,op_at h.1 (fun e=>absurd e h.2) (fun _=>(bk_hd ht).1) h0⟩
theorem lo_op2 {c:UInt8} (h:op2 c.toNat=true):Lo [c,61] [(4,[c,61])]:=fun p t acc h0=>by
 have hd:=drop_pre p [c,61] t
 have hl:=drop_len hd (by simp)
 have e1:atL (p++([c,61]++t)) p.length=c.toNat:=atL_of hd
 have e2:atL (p++([c,61]++t)) (p.length+1)=61:=atL_of1 hd
 have htd:=take_drop_of hd
 generalize p++([c,61]++t)=s at *
 have n1:=op2_ne ⟨c.toNat,UInt8.toNat_lt c⟩ h
 have hol:opLen s p.length=2:=by unfold opLen;rw [if_pos ⟨e2,by rw [e1];exact h⟩]
 have ho:oneL s p.length=.inl ((4,[c,61],p.length),p.length+2):=by
  rw [oneL_def,e1,n1.1,n1.2.1,hol,if_neg (by simp),if_neg (by simp),if_neg n1.2.2.1,if_neg (by decide)]
  rw [show p.length+2=p.length+[c,61].length from rfl,htd]
 exact ⟨[(4,[c,61],p.length)],rfl,tk_one hl.2 (sk_of hl.2 e1 n1.2.2.2.1 n1.2.2.2.2.1 n1.2.2.2.2.2.1 (fun h=>n1.2.2.2.2.2.2 h.1)) ho h0⟩
theorem lo_sp {c:UInt8} (h:(c == 32 || c == 10)=true):Lo [c] []:=fun p t acc h0=>by
 have hd:=drop_pre p [c] t
 have hl:=drop_len hd (by simp)
 have e1:atL (p++([c]++t)) p.length=c.toNat:=atL_of hd
 generalize p++([c]++t)=s at *
 rw [Bool.or_eq_true,beq_iff_eq,beq_iff_eq] at h
 refine ⟨[],rfl,?_⟩
 have hs:sk s p.length=sk s (p.length+1):=by
  rw [sk_eq (by omega),if_pos hl.2,e1,if_pos (by rcases h with rfl | rfl <;> decide)]
 unfold TK
 rw [hs,List.append_nil]
 rfl
theorem lx_hash {w:List UInt8} (h:dgB w=true):Lx (35 :: w) [(4,[35]),(2,w)]:=fun p t acc ht h0=>by
 have e:p++(35 :: w++t)=p++([35]++(w++t)):=rfl
 have hdg:dg (hd0 (w++t))=true:=by
  cases w with
  | nil=>cases h
  | cons c r=>
   unfold dgB at h
   rw [Bool.and_eq_true,List.all_eq_true] at h
   exact h.2 c (by simp)
 rw [e] at h0 ⊢
 have e2:=op_at (c:=35) (p:=p) (t:=w++t) (acc:=acc) (by decide) (fun _=>hdg) (fun h=>absurd h (by decide)) h0
 rw [e2] at h0 ⊢
 rw [<- List.append_assoc,show p.length+1=(p++[35]).length from by simp] at h0 ⊢
 obtain ⟨us,e3,e4⟩:=lx_num h (p++[35]) t _ ht h0
 have e5:(p++[35]).length+w.length=p.length+((35:UInt8) :: w).length:=by simp only [List.length_append,List.length_cons,List.length_nil];omega
 exact ⟨(4,[35],p.length) :: us,by rw [List.map_cons,e3];rfl,by rw [e4,e5];simp⟩
theorem lx_sp {b B} (h:Lx b B):Lx (32 :: b) B:=lo_app (lo_sp rfl) h
theorem lx_wsp {w b B} (hw:wordB w=true) (h:Lx b B):Lx (w++32 :: b) ((1,w) :: B):=lx_app (lx_word hw) (lx_sp h) rfl
theorem toks_lx {w:List UInt8} {ts} (h:Lx w ts) (h0:(toks w).2.2=0):∃ us:List Tk,us.map kt=ts∧(toks w).1=us++[(0,[],w.length)]∧w.length<=20000:=by
 unfold toks at h0 ⊢
 by_cases c:20000 < w.length
 · rw [if_pos c] at h0;cases h0
 · rw [if_neg c] at h0 ⊢
   have e:toksL (w.length+1) w (skipL (w.length+1) w 0) []=TK ([]++(w++[])) ([]:List UInt8).length []:=by rw [List.nil_append,List.append_nil];rfl
   rw [e] at h0 ⊢
   obtain ⟨us,e1,e2⟩:=h [] [] [] rfl h0
   refine ⟨us,e1,?_,by omega⟩
   rw [e2]
   have e3:([]:List UInt8)++(w++[])=w:=by simp
   rw [e3]
   unfold TK
   rw [show ([]:List UInt8).length+w.length=w.length from Nat.zero_add _,sk_eq (Nat.le_refl _),if_neg (by omega),tk_eq _ (Nat.le_refl _),if_neg (by omega)]
   rfl
end Go.HH
namespace Go.HH
open Go Go.Proofs
set_option maxRecDepth 100000
set_option linter.unusedSimpArgs false
set_option linter.unusedVariables false
inductive PR (α:Type) where
 | ok (a:α) (i:Nat)
 | bad (t:Nat) (e:Int)
 | out
def PR.bind {α β:Type} (r:PR α) (f:α->Nat->PR β):PR β:=match r with
 | .ok a i=>f a i
 | .bad t e=>.bad t e
 | .out=>.out
def tokAt (L:List Tk) (i:Nat):Tk:=L.getD i (0,[],0)
def atT (L:List Tk) (i:Nat):Nat:=(tokAt L i).2.2
def isT (L:List Tk) (k:Nat) (w:List UInt8) (i:Nat):Bool:=(tokAt L i).1 == k && (tokAt L i).2.1 == w
def mustP (L:List Tk) (k:Nat) (w:List UInt8) (i:Nat):PR Unit:=if isT L k w i then .ok () (i+1) else .bad (atT L i) 12
def oneP (L:List Tk) (k:Nat) (i:Nat):PR Tk:=if (tokAt L i).1=k then .ok (tokAt L i) (i+1) else .bad (atT L i) 12
def nameP (L:List Tk) (i:Nat):PR (List UInt8):=if (tokAt L i).1=1 then (if valB (tokAt L i).2.1 then .ok (tokAt L i).2.1 (i+1) else .bad (atT L i) 10) else .bad (atT L i) 12
def amtN (w:List UInt8) (n:Nat):Nat:=w.foldl (fun n b=>10 * n+(b.toNat - 48)) n
def numP (L:List Tk) (lo hi:Nat) (i:Nat):PR Nat:=
 if (tokAt L i).1=2 then (if amtN (tokAt L i).2.1 0 < lo∨hi < amtN (tokAt L i).2.1 0 then .bad (atT L i) 2 else .ok (amtN (tokAt L i).2.1 0) (i+1)) else .bad (atT L i) 12
def twoP (L:List Tk) (hi:Nat) (i:Nat):PR Nat:=if (tokAt L i).1=2∧(tokAt L i).2.1.length≠2 then .bad (atT L i) 12 else numP L 0 hi i
def pathP (L:List Tk) (i:Nat):PR Ky:=(numP L 1 250 i).bind fun d i=>(mustP L 4 [46] i).bind fun _ i=>(nameP L i).bind fun a i=>(mustP L 4 [46] i).bind fun _ i=>(nameP L i).bind fun b i=>.ok ((d:Int),a,b) i
def clockP (L:List Tk) (i:Nat):PR Nat:=(twoP L 23 i).bind fun h i=>(mustP L 4 [58] i).bind fun _ i=>(twoP L 59 i).bind fun m i=>.ok (60 * h+m) i
def pickW (L:List Tk) (k:Nat) (i:Nat):List (List UInt8)->Nat->Option Nat
 | [],_=>none
 | w :: r,n=>if isT L k w i then some n else pickW L k i r (n+1)
def dayWs:List (List UInt8):=[[109,111,110],[116,117,101],[119,101,100],[116,104,117],[102,114,105],[115,97,116],[115,117,110]]
def roleWs:List (List UInt8):=[[103,117,101,115,116],[99,104,105,108,100],[97,100,117,108,116],[111,119,110,101,114]]
def cmpWs:List (List UInt8):=[[61,61],[33,61],[60],[62,61],[62],[60,61]]
def dayP (L:List Tk) (i:Nat):PR Nat:=match pickW L 1 i dayWs 0 with
 | some k=>.ok k (i+1)
 | none=>.bad (atT L i) 12
def daysL (L:List Tk):Nat->Nat->Nat->PR Nat
 | 0,_,_=>.out
 | n+1,m,i=>(dayP L i).bind fun k i=>if isT L 4 [44] i then daysL L n (m ||| 2 ^ k) (i+1) else .ok (m ||| 2 ^ k) i
def daysP (L:List Tk) (i:Nat):PR Nat:=daysL L (L.length+1) 0 i
def zK:Ky:=(0,[],[])
def zV:Vl:=(0,0,[])
def nodT (k:Int) (kids:List Tr):Tr:=.mk k 0 0 [] zV zK kids
def litT (k n:Int):Tr:=.mk 1 0 0 [] (k,n,[]) zK []
def zT:Tr:=.mk 0 0 0 [] zV zK []
def plainB (L:List Tk) (i:Nat):Bool:=(tokAt L i).1 == 2 && !isT L 4 [46] (i+1)
def condP (L:List Tk) (i:Nat):PR Tr:=
 if isT L 1 [116,114,117,101] i then .ok (litT 1 1) (i+1) else
 if isT L 1 [102,97,108,115,101] i then .ok (litT 1 0) (i+1) else
 if isT L 1 [109,111,100,101] i then (mustP L 1 [105,115] (i+1)).bind fun _ i=>(nameP L i).bind fun s i=>.ok (.mk 3 0 0 s zV zK []) i else
 if isT L 1 [116,105,109,101] i then (clockP L (i+1)).bind fun n i=>(mustP L 1 [116,111] i).bind fun _ i=>(clockP L i).bind fun m i=>.ok (.mk 4 n m [] zV zK []) i else
 if isT L 1 [100,97,121,115] i then (daysP L (i+1)).bind fun n i=>.ok (.mk 5 n 0 [] zV zK []) i else
 if isT L 1 [104,111,109,101] i then (match pickW L 1 (i+1) roleWs 0 with
  | some k=>.ok (.mk 15 ((k+1:Nat):Int) 0 [] zV zK []) (i+2)
  | none=>.ok (.mk 15 0 0 [] zV zK []) (i+1)) else .bad (atT L i) 12
def cmpT:Nat->Tr->Tr->Tr
 | 0,a,b=>nodT 9 [a,b]
 | 1,a,b=>nodT 6 [nodT 9 [a,b]]
 | 2,a,b=>nodT 10 [a,b]
 | 3,a,b=>nodT 6 [nodT 10 [a,b]]
 | 4,a,b=>nodT 10 [b,a]
 | _,a,b=>nodT 6 [nodT 10 [b,a]]
inductive NT where
 | expr | chain (b:Bool) | chainL (b:Bool) (acc:List Tr) | not | cmp | sum | sumL (e:Tr) | prod | prodL (e:Tr) | un | prim
def opdNT:Bool->NT
 | true=>.chain false
 | false=>.not
def chW:Bool->List UInt8
 | true=>[111,114]
 | false=>[97,110,100]
def chT (b:Bool):List Tr->Tr
 | [a]=>a
 | l=>nodT (if b then 8 else 7) l
def pz (L:List Tk):Nat->NT->Nat->Nat->PR Tr
 | 0,_,_,_=>.out
 | n+1,.expr,o,i=>if isT L 1 [105,102] i then
  (if o < 100 then (pz L n .expr (o+1) (i+1)).bind fun c i=>(mustP L 1 [116,104,101,110] i).bind fun _ i=>(pz L n .expr (o+1) i).bind fun a i=>(mustP L 1 [101,108,115,101] i).bind fun _ i=>(pz L n .expr (o+1) i).bind fun b i=>.ok (nodT 14 [c,a,b]) i
  else .bad (atT L i) 22) else pz L n (.chain true) o i
 | n+1,.chain b,o,i=>(pz L n (opdNT b) o i).bind fun a i=>pz L n (.chainL b [a]) o i
 | n+1,.chainL b acc,o,i=>if isT L 1 (chW b) i then (if acc.length=8 then .bad (atT L i) 3 else (pz L n (opdNT b) o (i+1)).bind fun a i=>pz L n (.chainL b (acc++[a])) o i) else .ok (chT b acc) i
 | n+1,.not,o,i=>if isT L 1 [110,111,116] i then (if o < 100 then (pz L n .not (o+1) (i+1)).bind fun e i=>.ok (nodT 6 [e]) i else .bad (atT L i) 22) else pz L n .cmp o i
 | n+1,.cmp,o,i=>(pz L n .sum o i).bind fun a i=>match pickW L 4 i cmpWs 0 with
  | some k=>(pz L n .sum o (i+1)).bind fun b i=>.ok (cmpT k a b) i
  | none=>.ok a i
 | n+1,.sum,o,i=>(pz L n .prod o i).bind fun e i=>pz L n (.sumL e) o i
 | n+1,.sumL e,o,i=>if isT L 4 [43] i then (pz L n .prod o (i+1)).bind fun f i=>pz L n (.sumL (nodT 11 [e,f])) o i else
  if isT L 4 [45] i then (pz L n .prod o (i+1)).bind fun f i=>pz L n (.sumL (nodT 12 [e,f])) o i else .ok e i
 | n+1,.prod,o,i=>(pz L n .un o i).bind fun e i=>pz L n (.prodL e) o i
 | n+1,.prodL e,o,i=>if isT L 4 [42] i then (pz L n .un o (i+1)).bind fun f i=>pz L n (.prodL (nodT 13 [e,f])) o i else .ok e i
 | n+1,.un,o,i=>if isT L 4 [45] i then
  (if plainB L (i+1) then .ok (litT 2 (-(amtN (tokAt L (i+1)).2.1 0:Int))) (i+2) else
  if o < 100 then (pz L n .un (o+1) (i+1)).bind fun e i=>.ok (nodT 12 [litT 2 0,e]) i else .bad (atT L i) 22) else pz L n .prim o i
 | n+1,.prim,o,i=>if plainB L i then .ok (litT 2 (amtN (tokAt L i).2.1 0:Int)) (i+1) else
  if (tokAt L i).1=2 then (pathP L i).bind fun k i=>.ok (.mk 2 0 0 [] zV k []) i else
  if (tokAt L i).1=3 then .ok (.mk 1 0 0 [] (4,0,(tokAt L i).2.1) zK []) (i+1) else
  if isT L 4 [35] i then (numP L 0 63 (i+1)).bind fun n i=>.ok (litT 3 n) i else
  if isT L 4 [40] i then (if o < 100 then (pz L n .expr (o+1) (i+1)).bind fun e i=>(mustP L 4 [41] i).bind fun _ i=>.ok e i else .bad (atT L i) 22) else condP L i
def wholeP (L:List Tk) (n i:Nat):PR Tr:=(pz L n .expr 0 i).bind fun e j=>if ckT e=0 then .ok e j else .bad (atT L i) (ckT e)
end Go.HH
namespace Go.HH
open Go Go.Proofs
set_option maxRecDepth 100000
set_option linter.unusedSimpArgs false
set_option linter.unusedVariables false
abbrev KT:=Nat×List UInt8
def onT (L:List Tk) (i:Nat) (ts:List KT):Prop:=(L.drop i).map kt=ts
def hdT (ts:List KT):KT:=ts.headD (0,[])
theorem tokAt_on {L:List Tk} {i:Nat} {ts:List KT} (h:onT L i ts):kt (tokAt L i)=hdT ts:=by
 unfold onT at h
 subst h
 have e:tokAt L i=((L.drop i)[0]?).getD (0,[],0):=by
  unfold tokAt
  rw [List.getD_eq_getElem?_getD,List.getElem?_drop,Nat.add_zero]
 rw [e]
 cases L.drop i <;> rfl
theorem isT_on {L:List Tk} {i:Nat} {ts:List KT} (h:onT L i ts) (k:Nat) (w:List UInt8):isT L k w i=((hdT ts).1 == k && (hdT ts).2 == w):=by
 rw [<- tokAt_on h];rfl
theorem knd_on {L:List Tk} {i:Nat} {ts:List KT} (h:onT L i ts):(tokAt L i).1=(hdT ts).1:=by
 rw [<- tokAt_on h];rfl
theorem txt_on {L:List Tk} {i:Nat} {ts:List KT} (h:onT L i ts):(tokAt L i).2.1=(hdT ts).2:=by
 rw [<- tokAt_on h];rfl
theorem onT_app {L:List Tk} {i:Nat} {a r:List KT} (h:onT L i (a++r)):onT L (i+a.length) r:=by
 unfold onT at h ⊢
 rw [<- List.drop_drop,List.map_drop,h,List.drop_left]
theorem onT_tl {L:List Tk} {i:Nat} {x:KT} {r:List KT} (h:onT L i (x :: r)):onT L (i+1) r:=onT_app (a:=[x]) h
theorem isT_yes {L:List Tk} {i k:Nat} {w:List UInt8} {r:List KT} (h:onT L i ((k,w) :: r)):isT L k w i=true:=by
 rw [isT_on h];simp [hdT]
theorem hdT_app {ts r:List KT} (h:ts≠[]):hdT (ts++r)=hdT ts:=by
 cases ts with
 | nil=>exact absurd rfl h
 | cons x s=>rfl
theorem isT_ne {L:List Tk} {i k:Nat} {w:List UInt8} {ts r:List KT} (h:onT L i (ts++r)) (hn:ts≠[]) (hh:hdT ts≠(k,w)):isT L k w i=false:=by
 rw [isT_on h,hdT_app hn]
 rw [Bool.and_eq_false_iff,beq_eq_false_iff_ne,beq_eq_false_iff_ne]
 refine Decidable.or_iff_not_imp_left.2 fun h1 h2=>hh ?_
 exact Prod.ext (Decidable.of_not_not h1) h2
def lvT (t:KT):Nat:=
 if t == (1,[111,114]) then 1 else if t == (1,[97,110,100]) then 2 else if t.1 == 4 && cmpWs.contains t.2 then 4 else if t == (4,[43]) || t == (4,[45]) then 5 else if t == (4,[42]) then 6 else
 if t == (0,[]) || t == (1,[116,104,101,110]) || t == (1,[101,108,115,101]) || t == (4,[41]) || t == (4,[59]) then 0 else 9
theorem isT_no {L:List Tk} {i l k:Nat} {w:List UInt8} {ts:List KT} (h:onT L i ts) (hl:lvT (hdT ts) < l) (hk:l<=lvT (k,w)):isT L k w i=false:=by
 rw [isT_on h]
 cases e:((hdT ts).1 == k && (hdT ts).2 == w) with
 | false=>rfl
 | true=>
  rw [Bool.and_eq_true,beq_iff_eq,beq_iff_eq] at e
  have:hdT ts=(k,w):=Prod.ext e.1 e.2
  rw [this] at hl
  omega
def Rd (L:List Tk) (nt:NT) (o i:Nat) (e:Tr) (j:Nat):Prop:=∃ m,∀ n,m<=n->pz L n nt o i=.ok e j
theorem rd_step {L:List Tk} {nt:NT} {o i j:Nat} {e:Tr} (h:∃ m,∀ n,m<=n->pz L (n+1) nt o i=.ok e j):Rd L nt o i e j:=by
 obtain ⟨m,h⟩:=h
 refine ⟨m+1,fun n hn=>?_⟩
 obtain ⟨k,rfl⟩:∃ k,n=k+1:=⟨n - 1,by omega⟩
 exact h k (by omega)
def GR (nt:NT) (b:Nat) (ts:List KT) (d:Nat) (e:Tr):Prop:=∀ (L:List Tk) (o i:Nat) (r:List KT),onT L i (ts++r)->o+d<=100->lvT (hdT r) < b->Rd L nt o i e (i+ts.length)
def GS (nt:NT) (lp:Tr->NT) (b:Nat) (ts:List KT) (d:Nat) (e:Tr):Prop:=∀ (L:List Tk) (o i:Nat) (r:List KT),onT L i (ts++r)->o+d<=100->lvT (hdT r) < b->∀ x j,Rd L (lp e) o (i+ts.length) x j->Rd L nt o i x j
def G:Nat->List KT->Nat->Tr->Prop
 | 0=>GR .expr 1
 | 1=>GR (.chain true) 1
 | 2=>GR (.chain false) 2
 | 3=>GR .not 3
 | 4=>GR .cmp 4
 | 5=>GS .sum .sumL 6
 | 6=>GS .prod .prodL 7
 | 7=>GR .un 7
 | 8=>GR .prim 8
 | _=>fun _ _ _=>False
section
variable {ts:List KT} {d:Nat} {e:Tr}
theorem g8 (h:GR .prim 8 ts d e) (hn:ts≠[]) (hh:hdT ts≠(4,[45])):GR .un 7 ts d e:=fun L o i r hon ho hl=>by
 obtain ⟨m,h⟩:=h L o i r hon ho (by omega)
 refine rd_step ⟨m,fun n hm=>?_⟩
 rw [pz,isT_ne hon hn hh]
 exact h n hm
theorem g7 (h:GR .un 7 ts d e):GS .prod .prodL 7 ts d e:=fun L o i r hon ho hl x j ⟨m2,h2⟩=>by
 obtain ⟨m1,h1⟩:=h L o i r hon ho hl
 refine rd_step ⟨max m1 m2,fun n hm=>?_⟩
 rw [pz,h1 n (by omega)]
 exact h2 n (by omega)
theorem g6c (h:GS .prod .prodL 7 ts d e):GR .prod 6 ts d e:=fun L o i r hon ho hl=>by
 refine h L o i r hon ho (by omega) e _ (rd_step ⟨0,fun n _=>?_⟩)
 rw [pz,isT_no (onT_app hon) hl (by decide)]
 rfl
theorem g6 (h:GS .prod .prodL 7 ts d e):GS .sum .sumL 6 ts d e:=fun L o i r hon ho hl x j ⟨m2,h2⟩=>by
 obtain ⟨m1,h1⟩:=g6c h L o i r hon ho hl
 refine rd_step ⟨max m1 m2,fun n hm=>?_⟩
 rw [pz,h1 n (by omega)]
 exact h2 n (by omega)
theorem g5c (h:GS .sum .sumL 6 ts d e):GR .sum 5 ts d e:=fun L o i r hon ho hl=>by
 refine h L o i r hon ho (by omega) e _ (rd_step ⟨0,fun n _=>?_⟩)
 rw [pz,isT_no (onT_app hon) hl (by decide),isT_no (onT_app hon) hl (by decide)]
 rfl
theorem pick_no {L:List Tk} {i:Nat} {r:List KT} (hon:onT L i r) (hl:lvT (hdT r) < 4):pickW L 4 i cmpWs 0=none:=by
 have f:∀ w,4<=lvT (4,w)->isT L 4 w i=false:=fun w hw=>isT_no hon hl hw
 unfold cmpWs
 simp only [pickW]
 rw [f _ (by decide),f _ (by decide),f _ (by decide),f _ (by decide),f _ (by decide),f _ (by decide)]
 rfl
theorem g5 (h:GS .sum .sumL 6 ts d e):GR .cmp 4 ts d e:=fun L o i r hon ho hl=>by
 obtain ⟨m1,h1⟩:=g5c h L o i r hon ho (by omega)
 refine rd_step ⟨m1,fun n hm=>?_⟩
 rw [pz,h1 n hm]
 show (match pickW L 4 (i+ts.length) cmpWs 0 with | some k=>_ | none=>_)=_
 rw [pick_no (onT_app hon) hl]
theorem g4 (h:GR .cmp 4 ts d e) (hn:ts≠[]) (hh:hdT ts≠(1,[110,111,116])):GR .not 3 ts d e:=fun L o i r hon ho hl=>by
 obtain ⟨m,h⟩:=h L o i r hon ho (by omega)
 refine rd_step ⟨m,fun n hm=>?_⟩
 rw [pz,isT_ne hon hn hh]
 exact h n hm
theorem chL_end {b:Bool} {a:List Tr} {L:List Tk} {o i:Nat} {r:List KT} (hon:onT L i r) (hl:lvT (hdT r) < lvT (1,chW b)):Rd L (.chainL b a) o i (chT b a) i:=rd_step ⟨0,fun n _=>by
 rw [pz,isT_no hon hl (Nat.le_refl _)]
 rfl⟩
theorem g3 (h:GR .not 3 ts d e):GR (.chain false) 2 ts d e:=fun L o i r hon ho hl=>by
 obtain ⟨m1,h1⟩:=h L o i r hon ho (by omega)
 obtain ⟨m2,h2⟩:=chL_end (b:=false) (a:=[e]) (o:=o) (onT_app hon) hl
 refine rd_step ⟨max m1 m2,fun n hm=>?_⟩
 rw [pz]
 show (pz L n .not o i).bind _=_
 rw [h1 n (by omega)]
 exact h2 n (by omega)
theorem g2 (h:GR (.chain false) 2 ts d e):GR (.chain true) 1 ts d e:=fun L o i r hon ho hl=>by
 obtain ⟨m1,h1⟩:=h L o i r hon ho (by omega)
 obtain ⟨m2,h2⟩:=chL_end (b:=true) (a:=[e]) (o:=o) (onT_app hon) hl
 refine rd_step ⟨max m1 m2,fun n hm=>?_⟩
 rw [pz]
 show (pz L n (.chain false) o i).bind _=_
 rw [h1 n (by omega)]
 exact h2 n (by omega)
theorem g1 (h:GR (.chain true) 1 ts d e) (hn:ts≠[]) (hh:hdT ts≠(1,[105,102])):GR .expr 1 ts d e:=fun L o i r hon ho hl=>by
 obtain ⟨m,h⟩:=h L o i r hon ho (by omega)
 refine rd_step ⟨m,fun n hm=>?_⟩
 rw [pz,isT_ne hon hn hh]
 exact h n hm
def hdOK (l:Nat) (ts:List KT):Prop:=ts≠[]∧(1<=l->hdT ts≠(1,[105,102]))∧(4<=l->hdT ts≠(1,[110,111,116]))∧(8<=l->hdT ts≠(4,[45]))
theorem hdOK.mono {l l':Nat} (h:hdOK l ts) (hl:l'<=l):hdOK l' ts:=⟨h.1,fun x=>h.2.1 (by omega),fun x=>h.2.2.1 (by omega),fun x=>h.2.2.2 (by omega)⟩
theorem g_down:∀ {l:Nat},G (l+1) ts d e->hdOK (l+1) ts->G l ts d e
 | 0,h,hh=>g1 h hh.1 (hh.2.1 (by omega))
 | 1,h,hh=>g2 h
 | 2,h,hh=>g3 h
 | 3,h,hh=>g4 h hh.1 (hh.2.2.1 (by omega))
 | 4,h,hh=>g5 h
 | 5,h,hh=>g6 h
 | 6,h,hh=>g7 h
 | 7,h,hh=>g8 h hh.1 (hh.2.2.2 (by omega))
 | _+8,h,_=>False.elim h
theorem g_le {l:Nat}:∀ {k:Nat},G (l+k) ts d e->hdOK (l+k) ts->G l ts d e
 | 0,h,_=>h
 | k+1,h,hh=>g_le (k:=k) (g_down h hh) (hh.mono (by omega))
theorem GR.mono {nt:NT} {b d':Nat} (h:GR nt b ts d e) (hd:d<=d'):GR nt b ts d' e:=fun L o i r hon ho hl=>h L o i r hon (by omega) hl
theorem G.mono {d':Nat} (hd:d<=d'):∀ {l:Nat},G l ts d e->G l ts d' e
 | 0,h | 1,h | 2,h | 3,h | 4,h | 7,h | 8,h=>GR.mono h hd
 | 5,h | 6,h=>fun L o i r hon ho hl=>h L o i r hon (by omega) hl
 | _+9,h=>False.elim h
end
end Go.HH



namespace Go.HH
open Go Go.Proofs
set_option maxRecDepth 100000
set_option linter.unusedSimpArgs false
set_option linter.unusedVariables false
theorem ok_num_Digits:fnOK CC Tryz.f83 (Tryz.f83.body.getD .skip)=true:=by kernel_rfl
theorem fat_num_Digits:CC.P.funcs[83]?=some Tryz.f83:=by kernel_rfl
theorem itoa_length {n:Int} (h:inI n):(Lib.itoa n).length<=21:=by
 have key:∀ u:Nat,u<=9223372036854775808->(Lib.decDigits u).length<=20:=by
  intro u hu
  rw [Lib.decDigits_length]
  rcases Nat.lt_or_ge 20 (Lib.nDigits u) with h | h
  · exfalso
    have hp:10 ^ 20<=10 ^ (Lib.nDigits u - 1):=Nat.pow_le_pow_right (by omega) (by omega)
    have:10 ^ (Lib.nDigits u - 1)<=u:=by
     have gen:∀ v:Nat,1<=v->10 ^ (Lib.nDigits v - 1)<=v:=by
      intro v
      induction v using Nat.strongRecOn with
      | _ v ih=>
       intro hv
       by_cases hs:v < 10
       · rw [Lib.nDigits_small hs];simpa using hv
       · rw [Lib.nDigits_big hs,Nat.add_sub_cancel]
         have h1:=ih (v / 10) (by omega) (by omega)
         have h2:Lib.nDigits (v / 10)=Lib.nDigits (v / 10) - 1+1:=by have:=Lib.nDigits_pos (v / 10);omega
         rw [h2,Nat.pow_succ]
         omega
     apply gen
     rcases Nat.eq_zero_or_pos u with hz | hz
     · subst hz;rw [Lib.nDigits_small (by omega)] at h;omega
     · exact hz
    omega
  · exact h
 unfold Lib.itoa
 split
 · have:=key n.natAbs (by omega)
   simp only [List.length_cons]
   omega
 · have:=key n.toNat (by omega)
   omega
theorem call_num_Digits (n:Int) (h:inI n):callL CC 83 [.int .i64 n] []=some (.ret (.str (Lib.itoa n)),[]):=by
 rw [callL_enter (fn:=Tryz.f83) (c:=Tryz.f83.body.getD .skip) rfl rfl fat_num_Digits rfl ok_num_Digits (Nat.le_of_ble_eq_true rfl)]
 obtain ⟨ev,eo,so,co,⟨hev,hco⟩,R⟩:=RULES CC;rw [<- hev];have o_strconv_Itoa:=@op_strconv_Itoa;rw [<- hco] at o_strconv_Itoa
 have h1:=o_strconv_Itoa n h
 simp only [fpart,part',Tryz.f83,Option.getD]
 simp only [S7,R,seval,TG,h1]
theorem op_num_Digits (n:Int) (h:inI n) (bx):callOp CC (callL CC) 83 [.int .i64 n] bx=some (.ret (.str (Lib.itoa n)),bx):=callOp_of rfl (by simp only [SA,Bool.and_true]) (call_num_Digits n h) rfl
theorem str_add {a b:List UInt8} (h:a.length+b.length<=1000000):strP .add a b=some (.str (a++b)):=by
 unfold strP maxStr
 simp only
 rw [if_pos (by omega)]
def isD (c:UInt8):Bool:=decide (48<=c.toNat) && decide (c.toNat<=57)
def pr:List UInt8->Int->Option Int
 | [],n=>some n
 | c :: r,n=>if isD c then pr r (10 * n+((c.toNat:Int) - 48)) else none
end Go.HH
namespace Go.HH
open Go Go.Proofs
set_option maxRecDepth 100000
set_option linter.unusedSimpArgs false
set_option linter.unusedVariables false
theorem ok_value_Print:fnOK CC Tryz.f120 (Tryz.f120.body.getD .skip)=true:=by kernel_rfl
theorem fat_value_Print:CC.P.funcs[120]?=some Tryz.f120:=by kernel_rfl
def sN:List UInt8:=[110,111,110,101]
def sT:List UInt8:=[116,114,117,101]
def sF:List UInt8:=[102,97,108,115,101]
def prV (v:Vl):List UInt8:=if ckV v≠0 then [] else if v.1=0 then sN else if v.1=1 then (if v.2.1=1 then sT else sF) else if v.1=2 then Lib.itoa v.2.1 else if v.1=3 then 35 :: Lib.itoa v.2.1 else quoteL v.2.2
theorem ck_len {v:Vl} (h:ckV v=0):v.2.2.length<=60∧(v.1=0∨v.1=1∨v.1=2∨v.1=3∨v.1=4)∧(v.1≠4->v.2.2=[]):=by
 obtain ⟨k,n,s⟩:=v
 unfold ckV at h
 simp only at h ⊢
 cases ho:okN k n with
 | none=>rw [ho] at h;cases h
 | some b=>
  rw [ho] at h
  cases b with
  | false=>cases h
  | true=>
   simp only at h
   by_cases hl:60 < s.length
   · rw [if_pos hl] at h;cases h
   · rw [if_neg hl] at h
     refine ⟨by omega,?_,fun k4=>?_⟩
     · unfold okN at ho
       by_cases e0:k=0∨k=4
       · omega
       · rw [if_neg e0] at ho
         by_cases e1:k=1
         · omega
         · rw [if_neg e1] at ho
           by_cases e2:k=2
           · omega
           · rw [if_neg e2] at ho
             by_cases e3:k=3
             · omega
             · rw [if_neg e3] at ho;cases ho
     · by_cases hs:s=[]
       · exact hs
       · rw [if_pos ⟨hs,k4⟩] at h;cases h
theorem call_value_Print (v:Vl) (hn:inI v.2.1):∃ bx,callL CC 120 [vlV v] []=some (.ret (.str (prV v)),bx):=by
 rw [callL_enter (fn:=Tryz.f120) (c:=Tryz.f120.body.getD .skip) rfl rfl fat_value_Print rfl ok_value_Print (Nat.le_of_ble_eq_true rfl)]
 have hc:=op_value_Check v
 have hcl:=ck_len (v:=v)
 have hd:=op_num_Digits v.2.1 hn
 have hil:=itoa_length hn
 have hadd:=str_add (a:=[35]) (b:=Lib.itoa v.2.1) (by simp only [List.length_singleton];omega)
 have hq:=fun h=>op_names_Quote v.2.2 h
 unfold prV
 by_cases c0:ckV v=0
 · rw [if_neg (fun h=>h c0)]
   rw [c0] at hc
   obtain ⟨l1,l2,_⟩:=hcl c0
   have hq:=hq (by omega)
   clear hcl
   obtain ⟨k,n,s⟩:=v
   unfold vlV at *
   simp only at *
   generalize Lib.itoa n=d at *
   generalize quoteL s=q at *
   rcases l2 with rfl | rfl | rfl | rfl | rfl
   · rw [if_pos rfl]
     have hN:sN=[110,111,110,101]:=rfl
     rw [hN]
     obtain ⟨ev,eo,so,co,⟨hev,hco⟩,R⟩:=RULES CC;rw [<- hev]
     rw [<- hco] at hc hd hq
     simp only [fpart,part',Tryz.f120,Option.getD]
     simp only [S8,R,SG,seval,UT,SC,hc]
     exact ⟨_,rfl⟩
   · rw [if_neg (by decide),if_pos rfl]
     by_cases n1:n=1
     · have n1p:(n == 1)=true:=by simp [n1]
       rw [if_pos n1]
       have hN:sT=[116,114,117,101]:=rfl
       rw [hN]
       obtain ⟨ev,eo,so,co,⟨hev,hco⟩,R⟩:=RULES CC;rw [<- hev]
       rw [<- hco] at hc hd hq
       simp only [fpart,part',Tryz.f120,Option.getD]
       simp only [S8,R,SG,seval,UT,SC,hc,n1p]
       exact ⟨_,rfl⟩
     · have n1p:(n == 1)=false:=by simpa using n1
       rw [if_neg n1]
       have hN:sF=[102,97,108,115,101]:=rfl
       rw [hN]
       obtain ⟨ev,eo,so,co,⟨hev,hco⟩,R⟩:=RULES CC;rw [<- hev]
       rw [<- hco] at hc hd hq
       simp only [fpart,part',Tryz.f120,Option.getD]
       simp only [S8,R,SG,seval,UT,SC,hc,n1p]
       exact ⟨_,rfl⟩
   · rw [if_neg (by decide),if_neg (by decide),if_pos rfl]
     obtain ⟨ev,eo,so,co,⟨hev,hco⟩,R⟩:=RULES CC;rw [<- hev]
     rw [<- hco] at hc hd hq
     simp only [fpart,part',Tryz.f120,Option.getD]
     simp only [S8,R,SG,seval,UT,SC,hc,hd]
     exact ⟨_,rfl⟩
   · rw [if_neg (by decide),if_neg (by decide),if_neg (by decide),if_pos rfl]
     rw [show (35 :: d:List UInt8)=[35]++d from rfl]
     generalize [35]++d=d2 at *
     obtain ⟨ev,eo,so,co,⟨hev,hco⟩,R⟩:=RULES CC;rw [<- hev]
     rw [<- hco] at hc hd hq
     simp only [fpart,part',Tryz.f120,Option.getD]
     simp only [S8,R,SG,seval,UT,SC,hc,hd,hadd]
     exact ⟨_,rfl⟩
   · rw [if_neg (by decide),if_neg (by decide),if_neg (by decide),if_neg (by decide)]
     obtain ⟨ev,eo,so,co,⟨hev,hco⟩,R⟩:=RULES CC;rw [<- hev]
     rw [<- hco] at hc hd hq
     simp only [fpart,part',Tryz.f120,Option.getD]
     simp only [S8,R,SG,seval,UT,SC,hc,hq]
     exact ⟨_,rfl⟩
 · rw [if_pos c0]
   have c0p:(ckV v != 0)=true:=by simpa using c0
   generalize ckV v=c at *
   unfold vlV at *
   obtain ⟨ev,eo,so,co,⟨hev,hco⟩,R⟩:=RULES CC;rw [<- hev]
   rw [<- hco] at hc
   simp only [fpart,part',Tryz.f120,Option.getD]
   simp only [S8,R,SG,seval,UT,SC,hc,c0p]
   exact ⟨_,rfl⟩
theorem op_value_Print (v:Vl) (hn:inI v.2.1) (bx):callOp CC (callL CC) 120 [vlV v] bx=some (.ret (.str (prV v)),bx):=by
 obtain ⟨b,h⟩:=call_value_Print v hn
 exact callOp_of rfl rfl h rfl
end Go.HH
namespace Go.HH
open Go Go.Proofs
set_option maxRecDepth 100000
set_option maxHeartbeats 4000000
set_option linter.unusedSimpArgs false
set_option linter.unusedVariables false
def cat (a b:List UInt8):List UInt8:=a++b
theorem cat_len (a b:List UInt8):(cat a b).length=a.length+b.length:=List.length_append
theorem catA {a b:List UInt8} (h:a.length+b.length<=2 ^ 60):strP .add a b=some (.str (cat a b)):=if_pos h
def dig (n:Nat):UInt8:=UInt8.ofNat (48+n)
def dayW:List (List UInt8):=[[109,111,110],[116,117,101],[119,101,100],[116,104,117],[102,114,105],[115,97,116],[115,117,110]]
def dayL:Nat->List (List UInt8)->List UInt8
 | _,[]=>[]
 | m,w :: r=>if m % 2=1 then (if m / 2=0 then w else w++44 :: dayL (m / 2) r) else dayL (m / 2) r
def dayN (m:Nat):List UInt8:=[100,97,121,115,32]++dayL m dayW
noncomputable def chkW (f:FuncId) (g:Nat->List UInt8) (n:Nat):Bool:=match callF CC 80 f [.int .i64 (n:Int)] [] with
 | some (.ret (.str s),_)=>s == g n
 | _=>false
theorem of_chkW {f:FuncId} {g:Nat->List UInt8} {l:List Nat} (h:l.all (chkW f g)=true) (n:Nat) (hn:n ∈ l):∃ bx,callL CC f [.int .i64 (n:Int)] []=some (.ret (.str (g n)),bx):=by
 have:=List.all_eq_true.1 h n hn
 unfold chkW at this
 split at this
 · rename_i s bx hs
   have e:s=g n:=by simpa using this
   subst e
   exact ⟨_,callL_iff.2 ⟨80,hs⟩⟩
 · cases this
theorem all_days:((List.range 127).map (·+1)).all (chkW 123 dayN)=true:=by kernel_rfl
theorem op_days (n:Int) (h:1<=n∧n<=127) (bx):callOp CC (callL CC) 123 [.int .i64 n] bx=some (.ret (.str (dayN n.toNat)),bx):=by
 obtain ⟨b,hc⟩:=of_chkW all_days n.toNat (List.mem_map.2 ⟨n.toNat - 1,List.mem_range.2 (by omega),by omega⟩)
 rw [show ((n.toNat:Nat):Int)=n by omega] at hc
 exact callOp_of rfl rfl hc rfl
def twoN (n:Nat):List UInt8:=[dig (n / 10),dig (n % 10)]
theorem all_two:(List.range 60).all (chkW 153 twoN)=true:=by kernel_rfl
theorem op_two (n:Nat) (h:n < 60) (bx):callOp CC (callL CC) 153 [.int .i64 (n:Int)] bx=some (.ret (.str (twoN n)),bx):=by
 obtain ⟨b,hc⟩:=of_chkW all_two n (List.mem_range.2 h)
 exact callOp_of rfl rfl hc rfl
def clkT (n:Nat):List UInt8:=[dig (n / 60 / 10),dig (n / 60 % 10),58,dig (n % 60 / 10),dig (n % 60 % 10)]
theorem quo_nat (n k:Nat):((n:Int).tdiv (k:Int))=((n / k:Nat):Int):=by rw [Int.tdiv_eq_ediv_of_nonneg (by omega)];rfl
theorem rem_nat (n k:Nat):((n:Int).tmod (k:Int))=((n % k:Nat):Int):=by rw [Int.tmod_eq_emod_of_nonneg (by omega)];rfl
theorem ok_print_clock:fnOK CC Tryz.f122 (Tryz.f122.body.getD .skip)=true:=by kernel_rfl
theorem fat_print_clock:CC.P.funcs[122]?=some Tryz.f122:=by kernel_rfl
theorem ok_print_dotted:fnOK CC Tryz.f121 (Tryz.f121.body.getD .skip)=true:=by kernel_rfl
theorem fat_print_dotted:CC.P.funcs[121]?=some Tryz.f121:=by kernel_rfl
theorem FNi:∃ a b v,CC.P.underlying 75=some (.func a b v):=by
 have h:(match Tryz.prog.underlying 75 with | some (.func _ _ _)=>true | _=>false)=true:=by kernel_rfl
 split at h
 · rename_i a b v e;exact ⟨a,b,v,e⟩
 · cases h
theorem call_clock (n:Nat) (h:n < 1440):∃ bx,callL CC 122 [.int .i64 (n:Int)] []=some (.ret (.str (clkT n)),bx):=by
 have o1:=op_two (n / 60) (by omega)
 have o2:=op_two (n % 60) (by omega)
 have q1:=quo_nat n 60
 have q2:=rem_nat n 60
 have w1:=wrap_i64 (n:=((n / 60:Nat):Int)) ⟨by omega,by omega⟩
 have w2:=wrap_i64 (n:=((n % 60:Nat):Int)) ⟨by omega,by omega⟩
 have c1:=catA (a:=twoN (n / 60)) (b:=[58]) (by simp [twoN])
 have c2:=catA (a:=cat (twoN (n / 60)) [58]) (b:=twoN (n % 60)) (by simp [twoN,cat])
 have e:clkT n=cat (cat (twoN (n / 60)) [58]) (twoN (n % 60)):=rfl
 have k60:((60:Nat):Int)=60:=rfl
 rw [k60] at q1 q2
 rw [e]
 obtain ⟨fa,fb,fv,hfn⟩:=FNi
 generalize twoN (n / 60)=s1 at *
 generalize twoN (n % 60)=s2 at *
 generalize ((n / 60:Nat):Int)=x1 at *
 generalize ((n % 60:Nat):Int)=x2 at *
 rw [callL_enter (fn:=Tryz.f122) (c:=Tryz.f122.body.getD .skip) rfl rfl fat_print_clock rfl ok_print_clock (Nat.le_of_ble_eq_true rfl)]
 obtain ⟨ev,eo,so,co,⟨hev,hco⟩,R⟩:=RULES CC;rw [<- hev]
 rw [<- hco] at o1 o2
 simp only [fpart,part',Tryz.f122,Option.getD]
 simp only [S8,R,SG,seval,UT,SC,dynR,callAl,hfn,o1,o2,q1,q2,w1,w2,c1,c2]
 exact ⟨_,rfl⟩
theorem op_clock (n:Int) (h:0<=n∧n < 1440) (bx):callOp CC (callL CC) 122 [.int .i64 n] bx=some (.ret (.str (clkT n.toNat)),bx):=by
 obtain ⟨b,hc⟩:=call_clock n.toNat (by omega)
 rw [show ((n.toNat:Nat):Int)=n by omega] at hc
 exact callOp_of rfl rfl hc rfl
def dotT (d:Int) (a b:List UInt8):List UInt8:=cat (cat (cat (cat (Lib.itoa d) [46]) a) [46]) b
theorem call_dotted (d:Int) (a b:List UInt8) (h:inI d) (ha:a.length<=1000) (hb:b.length<=1000):∃ bx,callL CC 121 [.int .i64 d,.str a,.str b] []=some (.ret (.str (dotT d a b)),bx):=by
 have o1:=op_num_Digits d h
 have hl:=itoa_length h
 unfold dotT
 generalize Lib.itoa d=s at *
 have c1:=catA (a:=s) (b:=[46]) (by simp only [List.length_singleton];omega)
 have c2:=catA (a:=cat s [46]) (b:=a) (by simp only [cat_len,List.length_singleton];omega)
 have c3:=catA (a:=cat (cat s [46]) a) (b:=[46]) (by simp only [cat_len,List.length_singleton];omega)
 have c4:=catA (a:=cat (cat (cat s [46]) a) [46]) (b:=b) (by simp only [cat_len,List.length_singleton];omega)
 obtain ⟨fa,fb,fv,hfn⟩:=FNi
 rw [callL_enter (fn:=Tryz.f121) (c:=Tryz.f121.body.getD .skip) rfl rfl fat_print_dotted rfl ok_print_dotted (Nat.le_of_ble_eq_true rfl)]
 obtain ⟨ev,eo,so,co,⟨hev,hco⟩,R⟩:=RULES CC;rw [<- hev]
 rw [<- hco] at o1
 simp only [fpart,part',Tryz.f121,Option.getD]
 simp only [S8,R,SG,seval,UT,SC,dynR,callAl,hfn,o1,c1,c2,c3,c4]
 exact ⟨_,rfl⟩
theorem op_dotted (d:Int) (a b:List UInt8) (h:inI d) (ha:a.length<=1000) (hb:b.length<=1000) (bx):callOp CC (callL CC) 121 [.int .i64 d,.str a,.str b] bx=some (.ret (.str (dotT d a b)),bx):=by
 obtain ⟨c,hc⟩:=call_dotted d a b h ha hb
 exact callOp_of rfl rfl hc rfl
end Go.HH
namespace Go.HH
open Go Go.Proofs
set_option maxRecDepth 100000
set_option linter.unusedSimpArgs false
set_option linter.unusedVariables false
theorem bnd_ok {α β:Type} (a:α) (i:Nat) (f:α->Nat->PR β):(PR.ok a i).bind f=f a i:=rfl
theorem ok_at {α:Type} {e:α} {i j:Nat} (h:i=j):PR.ok e i=.ok e j:=by rw [h]
section
variable {L:List Tk} {i:Nat} {r:List KT}
theorem must_on {k:Nat} {w:List UInt8} (h:onT L i ((k,w) :: r)):mustP L k w i=.ok () (i+1):=by
 unfold mustP
 rw [isT_yes h];rfl
theorem num_on {w:List UInt8} {lo hi:Nat} (h:onT L i ((2,w) :: r)) (h1:lo<=amtN w 0) (h2:amtN w 0<=hi):numP L lo hi i=.ok (amtN w 0) (i+1):=by
 have e1:=knd_on h
 have e2:=txt_on h
 unfold numP
 rw [e1,e2]
 show (if (2:Nat)=2 then (if amtN w 0 < lo∨hi < amtN w 0 then PR.bad (atT L i) 2 else .ok (amtN w 0) (i+1)) else _)=_
 rw [if_pos rfl,if_neg (by omega)]
theorem two_on {w:List UInt8} {hi:Nat} (h:onT L i ((2,w) :: r)) (h1:w.length=2) (h2:amtN w 0<=hi):twoP L hi i=.ok (amtN w 0) (i+1):=by
 have e2:(tokAt L i).2.1=w:=txt_on h
 unfold twoP
 rw [e2,if_neg (fun x=>x.2 h1),num_on h (Nat.zero_le _) h2]
theorem name_on {w:List UInt8} (h:onT L i ((1,w) :: r)) (hv:valB w=true):nameP L i=.ok w (i+1):=by
 have e1:=knd_on h
 have e2:=txt_on h
 unfold nameP
 rw [e1,e2]
 show (if (1:Nat)=1 then (if valB w=true then PR.ok w (i+1) else _) else _)=_
 rw [if_pos rfl,if_pos hv]
theorem plain_on {x:KT} (h:onT L i (x :: r)):plainB L i=(x.1 == 2 && !((hdT r).1 == 4 && (hdT r).2 == [46])):=by
 unfold plainB
 rw [knd_on h,isT_on (onT_tl h)]
 rfl
end
def pickB (t:KT) (k:Nat):List (List UInt8)->Nat->Option Nat
 | [],_=>none
 | w :: r,n=>if t.1 == k && t.2 == w then some n else pickB t k r (n+1)
theorem pick_on {L:List Tk} {i:Nat} {ts:List KT} (h:onT L i ts) (k:Nat):∀ (l:List (List UInt8)) (n:Nat),pickW L k i l n=pickB (hdT ts) k l n
 | [],_=>rfl
 | w :: r,n=>by
  unfold pickW pickB
  rw [isT_on h,pick_on h k r (n+1)]
section
variable {d:Nat} {A B C:List KT} {a b c:Tr}
theorem c_if (ha:GR .expr 1 A d a) (hb:GR .expr 1 B d b) (hc:GR .expr 1 C d c):GR .expr 1 ((1,[105,102]) :: (A++(1,[116,104,101,110]) :: (B++(1,[101,108,115,101]) :: C))) (d+1) (nodT 14 [a,b,c]):=fun L o i r hon ho hl=>by
 have h0:onT L i ((1,[105,102]) :: (A++((1,[116,104,101,110]) :: (B++((1,[101,108,115,101]) :: (C++r)))))):=by simpa using hon
 have h1:=onT_tl h0
 obtain ⟨m1,r1⟩:=ha L (o+1) _ _ h1 (by omega) (by decide:lvT (1,[116,104,101,110]) < 1)
 have h2:=onT_app h1
 have h3:=onT_tl h2
 obtain ⟨m2,r2⟩:=hb L (o+1) _ _ h3 (by omega) (by decide:lvT (1,[101,108,115,101]) < 1)
 have h4:=onT_app h3
 have h5:=onT_tl h4
 obtain ⟨m3,r3⟩:=hc L (o+1) _ _ h5 (by omega) hl
 refine rd_step ⟨max m1 (max m2 m3),fun n hm=>?_⟩
 rw [pz,isT_yes h0,if_pos rfl,if_pos (by omega),r1 n (by omega),bnd_ok,must_on h2,bnd_ok,r2 n (by omega),bnd_ok,must_on h4,bnd_ok,r3 n (by omega),bnd_ok]
 exact ok_at (by simp only [List.length_cons,List.length_append];omega)
def flR (b:Bool):List (List KT×Tr)->List KT
 | []=>[]
 | x :: r=>(1,chW b) :: (x.1++flR b r)
theorem c_rowL {b:Bool} {lb:Nat} (hlb:lvT (1,chW b) < lb) {d:Nat}:∀ (ks:List (List KT×Tr)) (acc:List Tr),acc.length+ks.length<=8->(∀ x ∈ ks,GR (opdNT b) lb x.1 d x.2) ->
 ∀ (L:List Tk) (o i:Nat) (r:List KT),onT L i (flR b ks++r)->o+d<=100->lvT (hdT r) < lvT (1,chW b)->Rd L (.chainL b acc) o i (chT b (acc++ks.map (·.2))) (i+(flR b ks).length)
 | [],acc,_,_,L,o,i,r,hon,ho,hl=>by
  rw [List.map_nil,List.append_nil]
  exact chL_end hon hl
 | (A,a) :: ks,acc,hn,hk,L,o,i,r,hon,ho,hl=>by
  rw [List.length_cons] at hn
  have h0:onT L i ((1,chW b) :: (A++(flR b ks++r))):=by simpa [flR] using hon
  have h1:=onT_tl h0
  have hnx:lvT (hdT (flR b ks++r)) < lb:=by
   cases ks with
   | nil=>exact Nat.lt_trans hl hlb
   | cons y ks=>exact hlb
  obtain ⟨m1,r1⟩:=hk (A,a) (by simp) L o _ _ h1 ho hnx
  obtain ⟨m2,r2⟩:=c_rowL hlb ks (acc++[a]) (by rw [List.length_append,List.length_singleton];omega) (fun x hx=>hk x (by simp [hx])) L o _ _ (onT_app h1) ho hl
  refine rd_step ⟨max m1 m2,fun n hm=>?_⟩
  rw [pz,isT_yes h0,if_pos rfl,if_neg (by omega),r1 n (by omega),bnd_ok,r2 n (by omega)]
  rw [List.map_cons,List.append_assoc]
  exact ok_at (by show i+1+A.length+(flR b ks).length=i+((1,chW b) :: (A++flR b ks)).length;simp only [List.length_cons,List.length_append];omega)
theorem c_row {b:Bool} {lb:Nat} (hlb:lvT (1,chW b) < lb) {d:Nat} {A:List KT} {a:Tr} {ks:List (List KT×Tr)} (hn:ks.length<=7) (ha:GR (opdNT b) lb A d a) (hk:∀ x ∈ ks,GR (opdNT b) lb x.1 d x.2):GR (.chain b) (lvT (1,chW b)) (A++flR b ks) d (chT b (a :: ks.map (·.2))):=fun L o i r hon ho hl=>by
 have h0:onT L i (A++(flR b ks++r)):=by simpa using hon
 have hnx:lvT (hdT (flR b ks++r)) < lb:=by
  cases ks with
  | nil=>exact Nat.lt_trans hl hlb
  | cons y ks=>exact hlb
 obtain ⟨m1,r1⟩:=ha L o _ _ h0 ho hnx
 obtain ⟨m2,r2⟩:=c_rowL hlb ks [a] (by rw [List.length_singleton];omega) hk L o _ _ (onT_app h0) ho hl
 refine rd_step ⟨max m1 m2,fun n hm=>?_⟩
 rw [pz,r1 n (by omega),bnd_ok,r2 n (by omega)]
 exact ok_at (by simp only [List.length_append];omega)
theorem c_not (ha:GR .not 3 A d a):GR .not 3 ((1,[110,111,116]) :: A) (d+1) (nodT 6 [a]):=fun L o i r hon ho hl=>by
 obtain ⟨m,r1⟩:=ha L (o+1) _ _ (onT_tl hon) (by omega) hl
 refine rd_step ⟨m,fun n hm=>?_⟩
 rw [pz,isT_yes hon,if_pos rfl,if_pos (by omega),r1 n hm,bnd_ok]
 exact ok_at (by simp only [List.length_cons];omega)
theorem c_cmp {w:List UInt8} {k:Nat} (hw:pickB (4,w) 4 cmpWs 0=some k) (hl4:lvT (4,w) < 5) (ha:GS .sum .sumL 6 A d a) (hb:GS .sum .sumL 6 B d b):GR .cmp 4 (A++(4,w) :: B) d (cmpT k a b):=fun L o i r hon ho hl=>by
 have h0:onT L i (A++((4,w) :: (B++r))):=by simpa using hon
 obtain ⟨m1,r1⟩:=g5c ha L o _ _ h0 ho hl4
 have h1:=onT_app h0
 obtain ⟨m2,r2⟩:=g5c hb L o _ _ (onT_tl h1) ho (by omega)
 refine rd_step ⟨max m1 m2,fun n hm=>?_⟩
 rw [pz,r1 n (by omega),bnd_ok,pick_on h1]
 show (match pickB (4,w) 4 cmpWs 0 with | some k=>_ | none=>_)=_
 rw [hw]
 show (pz L n .sum o (i+A.length+1)).bind _=_
 rw [r2 n (by omega),bnd_ok]
 exact ok_at (by simp only [List.length_cons,List.length_append];omega)
theorem c_add (ha:GS .sum .sumL 6 A d a) (hb:GS .prod .prodL 7 B d b):GS .sum .sumL 6 (A++(4,[43]) :: B) d (nodT 11 [a,b]):=fun L o i r hon ho hl x j ⟨m2,r2⟩=>by
 have h0:onT L i (A++((4,[43]) :: (B++r))):=by simpa using hon
 have h1:=onT_app h0
 obtain ⟨m1,r1⟩:=g6c hb L o _ _ (onT_tl h1) ho hl
 refine ha L o i _ h0 ho (by decide:lvT (4,[43]) < 6) x j (rd_step ⟨max m1 m2,fun n hm=>?_⟩)
 rw [pz,isT_yes h1,if_pos rfl,r1 n (by omega),bnd_ok]
 have e:i+A.length+1+B.length=i+(A++(4,[43]) :: B).length:=by simp only [List.length_cons,List.length_append];omega
 rw [e]
 exact r2 n (by omega)
theorem c_sub (ha:GS .sum .sumL 6 A d a) (hb:GS .prod .prodL 7 B d b):GS .sum .sumL 6 (A++(4,[45]) :: B) d (nodT 12 [a,b]):=fun L o i r hon ho hl x j ⟨m2,r2⟩=>by
 have h0:onT L i (A++((4,[45]) :: (B++r))):=by simpa using hon
 have h1:=onT_app h0
 obtain ⟨m1,r1⟩:=g6c hb L o _ _ (onT_tl h1) ho hl
 refine ha L o i _ h0 ho (by decide:lvT (4,[45]) < 6) x j (rd_step ⟨max m1 m2,fun n hm=>?_⟩)
 have hp:isT L 4 [43] (i+A.length)=false:=by rw [isT_on h1];rfl
 rw [pz,hp,isT_yes h1,if_neg (by decide),if_pos rfl,r1 n (by omega),bnd_ok]
 have e:i+A.length+1+B.length=i+(A++(4,[45]) :: B).length:=by simp only [List.length_cons,List.length_append];omega
 rw [e]
 exact r2 n (by omega)
theorem c_mul (ha:GS .prod .prodL 7 A d a) (hb:GR .un 7 B d b):GS .prod .prodL 7 (A++(4,[42]) :: B) d (nodT 13 [a,b]):=fun L o i r hon ho hl x j ⟨m2,r2⟩=>by
 have h0:onT L i (A++((4,[42]) :: (B++r))):=by simpa using hon
 have h1:=onT_app h0
 obtain ⟨m1,r1⟩:=hb L o _ _ (onT_tl h1) ho hl
 refine ha L o i _ h0 ho (by decide:lvT (4,[42]) < 7) x j (rd_step ⟨max m1 m2,fun n hm=>?_⟩)
 rw [pz,isT_yes h1,if_pos rfl,r1 n (by omega),bnd_ok]
 have e:i+A.length+1+B.length=i+(A++(4,[42]) :: B).length:=by simp only [List.length_cons,List.length_append];omega
 rw [e]
 exact r2 n (by omega)
def npl (A:List KT):Prop:=A≠[]∧((hdT A).1≠2∨∃ w r,A=(2,w) :: (4,[46]) :: r)
theorem c_neg (ha:GR .un 7 A d a) (hp:npl A):GR .un 7 ((4,[45]) :: A) (d+1) (nodT 12 [litT 2 0,a]):=fun L o i r hon ho hl=>by
 obtain ⟨m,r1⟩:=ha L (o+1) _ _ (onT_tl hon) (by omega) hl
 refine rd_step ⟨m,fun n hm=>?_⟩
 have hpl:plainB L (i+1)=false:=by
  have h1:=onT_tl hon
  obtain ⟨hn,h | ⟨w,q,rfl⟩⟩:=hp
  · cases A with
    | nil=>exact absurd rfl hn
    | cons y A=>
     have h:y.1≠2:=h
     rw [plain_on h1,beq_eq_false_iff_ne.2 h];rfl
  · rw [plain_on h1];rfl
 rw [pz,isT_yes hon,if_pos rfl,hpl,if_neg (by decide),if_pos (by omega),r1 n hm,bnd_ok]
 exact ok_at (by simp only [List.length_cons];omega)
theorem c_negn {w:List UInt8}:GR .un 7 [(4,[45]),(2,w)] d (litT 2 (-(amtN w 0:Int))):=fun L o i r hon ho hl=>by
 refine rd_step ⟨0,fun n hm=>?_⟩
 have h1:onT L (i+1) ((2,w) :: r):=onT_tl hon
 have hd:isT L 4 [46] (i+1+1)=false:=isT_no (onT_tl h1) hl (by decide)
 have hpl:plainB L (i+1)=true:=by
  unfold plainB
  rw [knd_on h1,hd];rfl
 rw [pz,isT_yes hon,if_pos rfl,hpl,if_pos rfl,txt_on h1]
 rfl
theorem c_num {w:List UInt8}:GR .prim 8 [(2,w)] d (litT 2 (amtN w 0:Int)):=fun L o i r hon ho hl=>by
 refine rd_step ⟨0,fun n hm=>?_⟩
 have hd:isT L 4 [46] (i+1)=false:=isT_no (onT_tl hon) hl (by decide)
 have hpl:plainB L i=true:=by
  unfold plainB
  rw [knd_on hon,hd];rfl
 rw [pz,hpl,if_pos rfl,txt_on hon]
 rfl
theorem c_path {w x y:List UInt8} (h1:1<=amtN w 0) (h2:amtN w 0<=250) (hx:valB x=true) (hy:valB y=true):GR .prim 8 [(2,w),(4,[46]),(1,x),(4,[46]),(1,y)] d (.mk 2 0 0 [] zV ((amtN w 0:Int),x,y) []):=fun L o i r hon ho hl=>by
 refine rd_step ⟨0,fun n hm=>?_⟩
 have a1:=onT_tl hon
 have a2:=onT_tl a1
 have a3:=onT_tl a2
 have a4:=onT_tl a3
 have hpl:plainB L i=false:=by rw [plain_on hon];rfl
 have hk:(tokAt L i).1=2:=knd_on hon
 rw [pz,hpl,if_neg (by decide),if_pos hk]
 unfold pathP
 rw [num_on hon h1 h2,bnd_ok,must_on a1,bnd_ok,name_on a2 hx,bnd_ok,must_on a3,bnd_ok,name_on a4 hy,bnd_ok]
 rfl
theorem c_str {w:List UInt8}:GR .prim 8 [(3,w)] d (.mk 1 0 0 [] (4,0,w) zK []):=fun L o i r hon ho hl=>by
 refine rd_step ⟨0,fun n hm=>?_⟩
 have hpl:plainB L i=false:=by rw [plain_on hon];rfl
 have hk:(tokAt L i).1=3:=knd_on hon
 rw [pz,hpl,if_neg (by decide),if_neg (by omega),if_pos hk,txt_on hon]
 rfl
theorem c_bat {w:List UInt8} (h:amtN w 0<=63):GR .prim 8 [(4,[35]),(2,w)] d (litT 3 (amtN w 0:Int)):=fun L o i r hon ho hl=>by
 refine rd_step ⟨0,fun n hm=>?_⟩
 have hpl:plainB L i=false:=by rw [plain_on hon];rfl
 have hk:(tokAt L i).1=4:=knd_on hon
 rw [pz,hpl,if_neg (by decide),if_neg (by omega),if_neg (by omega),isT_yes hon,if_pos rfl,num_on (onT_tl hon) (Nat.zero_le _) h,bnd_ok]
 rfl
theorem c_par (ha:GR .expr 1 A d a):GR .prim 8 ((4,[40]) :: (A++[(4,[41])])) (d+1) a:=fun L o i r hon ho hl=>by
 have h0:onT L i ((4,[40]) :: (A++((4,[41]) :: r))):=by simpa using hon
 have h1:=onT_tl h0
 obtain ⟨m,r1⟩:=ha L (o+1) _ _ h1 (by omega) (by decide:lvT (4,[41]) < 1)
 refine rd_step ⟨m,fun n hm=>?_⟩
 have hpl:plainB L i=false:=by rw [plain_on h0];rfl
 have hk:(tokAt L i).1=4:=knd_on h0
 have hb:isT L 4 [35] i=false:=by rw [isT_on h0];rfl
 rw [pz,hpl,if_neg (by decide),if_neg (by omega),if_neg (by omega),hb,if_neg (by decide),isT_yes h0,if_pos rfl,if_pos (by omega),r1 n hm,bnd_ok,must_on (onT_app h1),bnd_ok]
 exact ok_at (by simp only [List.length_cons,List.length_append,List.length_nil];omega)
theorem c_word {w:List UInt8} {ts:List KT} (h:∀ (L:List Tk) (i:Nat) (r:List KT),onT L i (((1,w) :: ts)++r)->lvT (hdT r) < 8->condP L i=.ok a (i+((1,w) :: ts).length)):GR .prim 8 ((1,w) :: ts) d a:=fun L o i r hon ho hl=>by
 refine rd_step ⟨0,fun n hm=>?_⟩
 have h0:onT L i ((1,w) :: (ts++r)):=hon
 have hpl:plainB L i=false:=by rw [plain_on h0];rfl
 have hk:(tokAt L i).1=1:=knd_on h0
 have hb:∀ s,isT L 4 s i=false:=fun s=>by rw [isT_on h0];rfl
 rw [pz,hpl,if_neg (by decide),if_neg (by omega),if_neg (by omega),hb,if_neg (by decide),hb,if_neg (by decide)]
 exact h L i r hon hl
theorem cond_w {L:List Tk} {i:Nat} {w:List UInt8} {r:List KT} (h:onT L i ((1,w) :: r)) (s:List UInt8):isT L 1 s i=(w == s):=by rw [isT_on h];rfl
theorem c_true:GR .prim 8 [(1,[116,114,117,101])] d (litT 1 1):=c_word fun L i r h hl=>by
 unfold condP
 rw [cond_w h];rfl
theorem c_false:GR .prim 8 [(1,[102,97,108,115,101])] d (litT 1 0):=c_word fun L i r h hl=>by
 unfold condP
 rw [cond_w h,cond_w h];rfl
theorem c_mode {s:List UInt8} (hs:valB s=true):GR .prim 8 [(1,[109,111,100,101]),(1,[105,115]),(1,s)] d (.mk 3 0 0 s zV zK []):=c_word fun L i r h hl=>by
 have h1:=onT_tl h
 have h2:=onT_tl h1
 unfold condP
 rw [cond_w h,cond_w h,cond_w h,must_on h1,bnd_ok,name_on h2 hs];rfl
theorem c_clk {L:List Tk} {i:Nat} {x y:List UInt8} {r:List KT} (h:onT L i ((2,x) :: (4,[58]) :: (2,y) :: r)) (hx:x.length=2) (hy:y.length=2) (h1:amtN x 0<=23) (h2:amtN y 0<=59):clockP L i=.ok (60 * amtN x 0+amtN y 0) (i+3):=by
 have a1:=onT_tl h
 have a2:=onT_tl a1
 unfold clockP
 rw [two_on h hx h1,bnd_ok,must_on a1,bnd_ok,two_on a2 hy h2,bnd_ok]
def two (k:Nat):List UInt8:=[dig (k / 10),dig (k % 10)]
theorem two_amt:∀ k:_root_.Fin 60,amtN (two k.val) 0=k.val:=by decide +kernel
def clkK (n:Nat):List KT:=[(2,two (n / 60)),(4,[58]),(2,two (n % 60))]
theorem c_clkn {L:List Tk} {i n:Nat} {r:List KT} (h:onT L i (clkK n++r)) (hn:n < 1440):clockP L i=.ok n (i+3):=by
 have e1:=two_amt ⟨n / 60,by omega⟩
 have e2:=two_amt ⟨n % 60,by omega⟩
 simp only at e1 e2
 rw [c_clk h rfl rfl (by rw [e1];omega) (by rw [e2];omega),e1,e2]
 exact ok_at rfl |>.trans (by rw [show 60 * (n / 60)+n % 60=n from by omega])
theorem c_time {n m:Nat} (hn:n < 1440) (hm:m < 1440):GR .prim 8 ((1,[116,105,109,101]) :: (clkK n++(1,[116,111]) :: clkK m)) d (.mk 4 n m [] zV zK []):=c_word fun L i r h hl=>by
 have h0:onT L i ((1,[116,105,109,101]) :: (clkK n++((1,[116,111]) :: (clkK m++r)))):=by simpa using h
 have h1:=onT_tl h0
 have h2:onT L (i+1+3) _:=onT_app h1
 unfold condP
 rw [cond_w h0,cond_w h0,cond_w h0,cond_w h0,c_clkn h1 hn,bnd_ok,must_on h2,bnd_ok,c_clkn (onT_tl h2) hm];rfl
theorem role_no {L:List Tk} {i:Nat} {r:List KT} (hon:onT L i r) (hl:lvT (hdT r) < 8):pickW L 1 i roleWs 0=none:=by
 have f:∀ w,8<=lvT (1,w)->isT L 1 w i=false:=fun w hw=>isT_no hon hl hw
 unfold roleWs
 simp only [pickW]
 rw [f _ (by decide),f _ (by decide),f _ (by decide),f _ (by decide)]
 rfl
theorem c_home:GR .prim 8 [(1,[104,111,109,101])] d (.mk 15 0 0 [] zV zK []):=c_word fun L i r h hl=>by
 unfold condP
 rw [cond_w h,cond_w h,cond_w h,cond_w h,cond_w h,cond_w h,role_no (onT_tl h) hl];rfl
theorem c_role {w:List UInt8} {k:Nat} (hk:pickB (1,w) 1 roleWs 0=some k):GR .prim 8 [(1,[104,111,109,101]),(1,w)] d (.mk 15 ((k+1:Nat):Int) 0 [] zV zK []):=c_word fun L i r h hl=>by
 have h1:onT L (i+1) ((1,w) :: r):=onT_tl h
 have hp:pickW L 1 (i+1) roleWs 0=some k:=by rw [pick_on h1];exact hk
 unfold condP
 rw [cond_w h,cond_w h,cond_w h,cond_w h,cond_w h,cond_w h,hp];rfl
end
end Go.HH

namespace Go.HH
open Go Go.Proofs
set_option maxRecDepth 100000
set_option maxHeartbeats 4000000
set_option linter.unusedSimpArgs false
set_option linter.unusedVariables false
theorem ok_print_literal:fnOK CC Tryz.f68 (Tryz.f68.body.getD .skip)=true:=by kernel_rfl
theorem fat_print_literal:CC.P.funcs[68]?=some Tryz.f68:=by kernel_rfl
theorem ok_print_primary:fnOK CC Tryz.f74 (Tryz.f74.body.getD .skip)=true:=by kernel_rfl
theorem fat_print_primary:CC.P.funcs[74]?=some Tryz.f74:=by kernel_rfl
def lvV (v:Vl):Int:=if v.1=2∧v.2.1 < 0 then 7 else 8
theorem call_literal (v:Vl) (hn:inI v.2.1) (hc:ckV v=0) (h0:v.1≠0):∃ bx,callL CC 68 [vlV v] []=some (.ret (.tup [.str (prV v),.int .i64 (lvV v)]),bx):=by
 have o1:=op_value_Print v hn
 have o2:=op_num_Digits v.2.1 hn
 have e2:v.1=2->prV v=Lib.itoa v.2.1:=fun h=>by
  unfold prV
  rw [if_neg (by omega),if_neg (by omega),if_neg (by omega),if_pos h]
 unfold lvV
 obtain ⟨k,n,s⟩:=v
 unfold vlV at o1 ⊢
 simp only at o1 o2 e2 ⊢
 generalize prV (k,n,s)=pv at *
 generalize Lib.itoa n=d at *
 clear hc h0
 rw [callL_enter (fn:=Tryz.f68) (c:=Tryz.f68.body.getD .skip) rfl rfl fat_print_literal rfl ok_print_literal (Nat.le_of_ble_eq_true rfl)]
 by_cases k2:k=2
 · have e:=e2 k2
   subst k2
   by_cases hneg:n < 0
   · rw [if_pos ⟨rfl,hneg⟩,e]
     obtain ⟨ev,eo,so,co,⟨hev,hco⟩,R⟩:=RULES CC;rw [<- hev]
     rw [<- hco] at o1 o2
     simp only [fpart,part',Tryz.f68,Option.getD]
     simp only [S8,R,SG,seval,UT,SC,o1,o2,hneg]
     exact ⟨_,rfl⟩
   · rw [if_neg (by omega)]
     obtain ⟨ev,eo,so,co,⟨hev,hco⟩,R⟩:=RULES CC;rw [<- hev]
     rw [<- hco] at o1 o2
     simp only [fpart,part',Tryz.f68,Option.getD]
     simp only [S8,R,SG,seval,UT,SC,o1,o2,hneg]
     exact ⟨_,rfl⟩
 · have p2:(k == 2)=false:=by simpa using k2
   rw [if_neg (by omega)]
   obtain ⟨ev,eo,so,co,⟨hev,hco⟩,R⟩:=RULES CC;rw [<- hev]
   rw [<- hco] at o1 o2
   simp only [fpart,part',Tryz.f68,Option.getD]
   simp only [S8,R,SG,seval,UT,SC,o1,o2,p2]
   exact ⟨_,rfl⟩
theorem op_literal (v:Vl) (hn:inI v.2.1) (hc:ckV v=0) (h0:v.1≠0) (bx):callOp CC (callL CC) 68 [vlV v] bx=some (.ret (.tup [.str (prV v),.int .i64 (lvV v)]),bx):=by
 obtain ⟨c,h⟩:=call_literal v hn hc h0
 exact callOp_of rfl rfl h rfl
def homeN:Nat->List UInt8
 | 0=>[104,111,109,101]
 | 1=>[104,111,109,101,32,103,117,101,115,116]
 | 2=>[104,111,109,101,32,99,104,105,108,100]
 | 3=>[104,111,109,101,32,97,100,117,108,116]
 | 4=>[104,111,109,101,32,111,119,110,101,114]
 | _=>[]
def prmT (k n m:Int) (nm:List UInt8) (key:Ky):List UInt8:=if k=2 then dotT key.1 key.2.1 key.2.2 else if k=3 then cat [109,111,100,101,32,105,115,32] nm else
 if k=4 then cat (cat (cat [116,105,109,101,32] (clkT n.toNat)) [32,116,111,32]) (clkT m.toNat) else if k=5 then dayN n.toNat else homeN n.toNat
theorem bldH:buildP CC 131 [(0,.str [104,111,109,101]),(1,.str [104,111,109,101,32,103,117,101,115,116]),(2,.str [104,111,109,101,32,99,104,105,108,100]),(3,.str [104,111,109,101,32,97,100,117,108,116]),(4,.str [104,111,109,101,32,111,119,110,101,114])]=some (.agg [.str [104,111,109,101],.str [104,111,109,101,32,103,117,101,115,116],.str [104,111,109,101,32,99,104,105,108,100],.str [104,111,109,101,32,97,100,117,108,116],.str [104,111,109,101,32,111,119,110,101,114]]) :=by kernel_rfl
theorem ixH0:indexV CC 131 (.agg [.str [104,111,109,101],.str [104,111,109,101,32,103,117,101,115,116],.str [104,111,109,101,32,99,104,105,108,100],.str [104,111,109,101,32,97,100,117,108,116],.str [104,111,109,101,32,111,119,110,101,114]]) (.int .i64 0)=some (.str [104,111,109,101]):=by kernel_rfl
theorem ixH1:indexV CC 131 (.agg [.str [104,111,109,101],.str [104,111,109,101,32,103,117,101,115,116],.str [104,111,109,101,32,99,104,105,108,100],.str [104,111,109,101,32,97,100,117,108,116],.str [104,111,109,101,32,111,119,110,101,114]]) (.int .i64 1)=some (.str [104,111,109,101,32,103,117,101,115,116]):=by kernel_rfl
theorem ixH2:indexV CC 131 (.agg [.str [104,111,109,101],.str [104,111,109,101,32,103,117,101,115,116],.str [104,111,109,101,32,99,104,105,108,100],.str [104,111,109,101,32,97,100,117,108,116],.str [104,111,109,101,32,111,119,110,101,114]]) (.int .i64 2)=some (.str [104,111,109,101,32,99,104,105,108,100]):=by kernel_rfl
theorem ixH3:indexV CC 131 (.agg [.str [104,111,109,101],.str [104,111,109,101,32,103,117,101,115,116],.str [104,111,109,101,32,99,104,105,108,100],.str [104,111,109,101,32,97,100,117,108,116],.str [104,111,109,101,32,111,119,110,101,114]]) (.int .i64 3)=some (.str [104,111,109,101,32,97,100,117,108,116]):=by kernel_rfl
theorem ixH4:indexV CC 131 (.agg [.str [104,111,109,101],.str [104,111,109,101,32,103,117,101,115,116],.str [104,111,109,101,32,99,104,105,108,100],.str [104,111,109,101,32,97,100,117,108,116],.str [104,111,109,101,32,111,119,110,101,114]]) (.int .i64 4)=some (.str [104,111,109,101,32,111,119,110,101,114]):=by kernel_rfl
theorem call_primary (k n m:Int) (nm:List UInt8) (v:Vl) (key:Ky) (kids:List Tr) (hk:k=2∨k=3∨k=4∨k=5∨k=15) (hr:rgB k n m key.1=true) (hd:inI key.1) (l1:nm.length<=100) (l2:key.2.1.length<=100) (l3:key.2.2.length<=100) :
 ∃ bx,callL CC 74 [trV (.mk k n m nm v key kids)] []=some (.ret (.str (prmT k n m nm key)),bx):=by
 unfold prmT
 unfold trV
 unfold rgB at hr
 generalize trVs kids=xs
 obtain ⟨d,c,a⟩:=key
 simp only at hr hd l2 l3 ⊢
 rw [callL_enter (fn:=Tryz.f74) (c:=Tryz.f74.body.getD .skip) rfl rfl fat_print_primary rfl ok_print_primary (Nat.le_of_ble_eq_true rfl)]
 rcases hk with rfl | rfl | rfl | rfl | rfl
 · rw [if_pos rfl]
   have o1:=op_dotted d c a hd (by omega) (by omega)
   obtain ⟨ev,eo,so,co,⟨hev,hco⟩,R⟩:=RULES CC;rw [<- hev]
   rw [<- hco] at o1
   simp only [fpart,part',Tryz.f74,Option.getD]
   simp only [S8,R,SG,seval,UT,SC,o1]
   exact ⟨_,rfl⟩
 · rw [if_neg (by omega),if_pos rfl]
   have c1:=catA (a:=[109,111,100,101,32,105,115,32]) (b:=nm) (by simp only [List.length_cons,List.length_nil];omega)
   obtain ⟨ev,eo,so,co,⟨hev,hco⟩,R⟩:=RULES CC;rw [<- hev]
   skip
   simp only [fpart,part',Tryz.f74,Option.getD]
   simp only [S8,R,SG,seval,UT,SC,c1]
   exact ⟨_,rfl⟩
 · rw [if_pos rfl] at hr
   have hr:=of_decide_eq_true hr
   rw [if_neg (by omega),if_neg (by omega),if_pos rfl]
   have o1:=op_clock n (by omega)
   have o2:=op_clock m (by omega)
   have e1:(clkT n.toNat).length=5:=rfl
   have e2:(clkT m.toNat).length=5:=rfl
   generalize clkT n.toNat=s1 at *
   generalize clkT m.toNat=s2 at *
   have c1:=catA (a:=[116,105,109,101,32]) (b:=s1) (by simp only [List.length_cons,List.length_nil];omega)
   have c2:=catA (a:=cat [116,105,109,101,32] s1) (b:=[32,116,111,32]) (by simp only [cat_len,List.length_cons,List.length_nil];omega)
   have c3:=catA (a:=cat (cat [116,105,109,101,32] s1) [32,116,111,32]) (b:=s2) (by simp only [cat_len,List.length_cons,List.length_nil];omega)
   obtain ⟨ev,eo,so,co,⟨hev,hco⟩,R⟩:=RULES CC;rw [<- hev]
   rw [<- hco] at o1 o2
   simp only [fpart,part',Tryz.f74,Option.getD]
   simp only [S8,R,SG,seval,UT,SC,o1,o2,c1,c2,c3]
   exact ⟨_,rfl⟩
 · rw [if_neg (by omega),if_pos rfl] at hr
   have hr:=of_decide_eq_true hr
   rw [if_neg (by omega),if_neg (by omega),if_neg (by omega),if_pos rfl]
   have o1:=op_days n (by omega)
   obtain ⟨ev,eo,so,co,⟨hev,hco⟩,R⟩:=RULES CC;rw [<- hev]
   rw [<- hco] at o1
   simp only [fpart,part',Tryz.f74,Option.getD]
   simp only [S8,R,SG,seval,UT,SC,o1]
   exact ⟨_,rfl⟩
 · rw [if_neg (by omega),if_neg (by omega),if_pos rfl] at hr
   have hr:=of_decide_eq_true hr
   rw [if_neg (by omega),if_neg (by omega),if_neg (by omega),if_neg (by omega)]
   have:n=0∨n=1∨n=2∨n=3∨n=4:=by omega
   rcases this with rfl | rfl | rfl | rfl | rfl
   all_goals
    obtain ⟨ev,eo,so,co,⟨hev,hco⟩,R⟩:=RULES CC;rw [<- hev]
    skip
    simp only [fpart,part',Tryz.f74,Option.getD]
    simp only [S8,R,SG,seval,UT,SC,bldH,ixH0,ixH1,ixH2,ixH3,ixH4]
    exact ⟨_,rfl⟩
theorem op_primary (k n m:Int) (nm:List UInt8) (v:Vl) (key:Ky) (kids:List Tr) (hk:k=2∨k=3∨k=4∨k=5∨k=15) (hr:rgB k n m key.1=true) (hd:inI key.1) (l1:nm.length<=100) (l2:key.2.1.length<=100) (l3:key.2.2.length<=100) (bx) :
 callOp CC (callL CC) 74 [trV (.mk k n m nm v key kids)] bx=some (.ret (.str (prmT k n m nm key)),bx):=by
 obtain ⟨c,h⟩:=call_primary k n m nm v key kids hk hr hd l1 l2 l3
 exact callOp_of rfl (by simp only [pureL_cons,trV_pure,pureL_nil,Bool.and_self]) h rfl
end Go.HH

namespace Go.HH
open Go Go.Proofs
set_option maxRecDepth 100000
set_option maxHeartbeats 4000000
set_option linter.unusedSimpArgs false
set_option linter.unusedVariables false
theorem ok_expr_Same:fnOK CC Tryz.f85 (Tryz.f85.body.getD .skip)=true:=by kernel_rfl
theorem fat_expr_Same:CC.P.funcs[85]?=some Tryz.f85:=by kernel_rfl
theorem ok_R28_Same:fnOK CC Tryz.f23 (Tryz.f23.body.getD .skip)=true:=by kernel_rfl
theorem fat_R28_Same:CC.P.funcs[23]?=some Tryz.f23:=by kernel_rfl
def leafV (k n m:Int) (nm:List UInt8) (v:Vl) (key:Ky):PV:=.agg [.int .i64 k,.int .i64 n,.int .i64 m,.str nm,.int .i64 v.1,.int .i64 v.2.1,.str v.2.2,.int .i64 key.1,.str key.2.1,.str key.2.2,.sl []]
def smB (t:Tr) (k n m:Int) (nm:List UInt8) (v:Vl) (key:Ky):Bool:=match t with
 | .mk k' n' m' nm' v' key' kids=>(k' == k) && (n' == n) && (m' == m) && (nm' == nm) && eqVl v' v && eqKy key' key && (kids.length == 0)
theorem loop0_expr_Same (L:Code) (hL:L=fpart Tryz.f85 [1,1,0,1,0]) (e:List PV) (bx:List PBox) (h1:getT e 58=.int .i64 0) (h2:getT e 59=.int .i64 0):∃ e' bx',evL CC L ⟨e,bx⟩=some (.exit 0,⟨e',bx'⟩):=by
 rw [evL_at (fpart Tryz.f85 [1,1,0,1,0,0]) hL]
 have hlen:True:=trivial
 have hi:¬ ((0:Int) < 0):=by decide
 obtain ⟨ev,eo,so,co,⟨hev,hco⟩,R⟩:=RULES CC;rw [<- hev]
 simp only [fpart,part',Tryz.f85,Option.getD]
 simp only [S8,R,SG,seval,UT,SC,hlen,eqgV,eqgK,Bool.not_not,h1,h2,hi]
 exact ⟨_,_,rfl⟩
theorem same_expr_Same (k n m:Int) (nm:List UInt8) (vk vn:Int) (vs:List UInt8) (dv:Int) (cl at_:List UInt8) (xs:List PV) (k' n' m':Int) (nm':List UInt8) (vk' vn':Int) (vs':List UInt8) (dv':Int) (cl' at':List UInt8) (b1 b2 b3 b4 b5 b6 b7:Bool)
 (h1:(k != k')=b1) (h2:(n != n')=b2) (h3:(m != m')=b3) (h4:strP .neq nm nm'=some (.bool b4)) (h5:eqP CC 100 24 (.agg [.int .i64 vk,.int .i64 vn,.str vs]) (.agg [.int .i64 vk',.int .i64 vn',.str vs'])=some (!b5)) (h6:eqP CC 100 26 (.agg [.int .i64 dv,.str cl,.str at_]) (.agg [.int .i64 dv',.str cl',.str at'])=some (!b6)) (h7:((xs.length:Int) != ((0:Nat):Int))=b7) :
 ∃ bx,callL CC 85 [.agg [.int .i64 k,.int .i64 n,.int .i64 m,.str nm,.int .i64 vk,.int .i64 vn,.str vs,.int .i64 dv,.str cl,.str at_,.sl xs],.agg [.int .i64 k',.int .i64 n',.int .i64 m',.str nm',.int .i64 vk',.int .i64 vn',.str vs',.int .i64 dv',.str cl',.str at',.sl []]] []=some (.ret (.bool (!(b1 || b2 || b3 || b4 || b5 || b6 || b7))),bx):=by
 have hlen:True:=trivial
 have hloop:=loop0_expr_Same _ rfl
 rw [callL_enter (fn:=Tryz.f85) (c:=Tryz.f85.body.getD .skip) rfl rfl fat_expr_Same rfl ok_expr_Same (Nat.le_of_ble_eq_true rfl)]
 cases b1 with
 | true=>
  obtain ⟨ev,eo,so,co,⟨hev,hco⟩,R⟩:=RULES CC;rw [<- hev]
  simp only [fpart,part',Tryz.f85,Option.getD]
  simp only [S8,R,SG,seval,UT,SC,hlen,eqgV,eqgK,Bool.not_not,h1]
  exact ⟨_,rfl⟩
 | false=>
  cases b2 with
  | true=>
   obtain ⟨ev,eo,so,co,⟨hev,hco⟩,R⟩:=RULES CC;rw [<- hev]
   simp only [fpart,part',Tryz.f85,Option.getD]
   simp only [S8,R,SG,seval,UT,SC,hlen,eqgV,eqgK,Bool.not_not,h1,h2]
   exact ⟨_,rfl⟩
  | false=>
   cases b3 with
   | true=>
    obtain ⟨ev,eo,so,co,⟨hev,hco⟩,R⟩:=RULES CC;rw [<- hev]
    simp only [fpart,part',Tryz.f85,Option.getD]
    simp only [S8,R,SG,seval,UT,SC,hlen,eqgV,eqgK,Bool.not_not,h1,h2,h3]
    exact ⟨_,rfl⟩
   | false=>
    cases b4 with
    | true=>
     obtain ⟨ev,eo,so,co,⟨hev,hco⟩,R⟩:=RULES CC;rw [<- hev]
     simp only [fpart,part',Tryz.f85,Option.getD]
     simp only [S8,R,SG,seval,UT,SC,hlen,eqgV,eqgK,Bool.not_not,h1,h2,h3,h4]
     exact ⟨_,rfl⟩
    | false=>
     cases b5 with
     | true=>
      obtain ⟨ev,eo,so,co,⟨hev,hco⟩,R⟩:=RULES CC;rw [<- hev]
      simp only [fpart,part',Tryz.f85,Option.getD]
      simp only [S8,R,SG,seval,UT,SC,hlen,eqgV,eqgK,Bool.not_not,h1,h2,h3,h4,h5]
      exact ⟨_,rfl⟩
     | false=>
      cases b6 with
      | true=>
       obtain ⟨ev,eo,so,co,⟨hev,hco⟩,R⟩:=RULES CC;rw [<- hev]
       simp only [fpart,part',Tryz.f85,Option.getD]
       simp only [S8,R,SG,seval,UT,SC,hlen,eqgV,eqgK,Bool.not_not,h1,h2,h3,h4,h5,h6]
       exact ⟨_,rfl⟩
      | false=>
       have h7':((xs.length:Int) != 0)=b7:=h7
       cases b7 with
       | true=>
        obtain ⟨ev,eo,so,co,⟨hev,hco⟩,R⟩:=RULES CC;rw [<- hev]
        simp only [fpart,part',Tryz.f85,Option.getD]
        simp only [S8,R,SG,seval,UT,SC,hlen,eqgV,eqgK,Bool.not_not,h1,h2,h3,h4,h5,h6,h7,h7']
        exact ⟨_,rfl⟩
       | false=>
        have hx0:(xs.length:Int)=0:=by simpa using h7
        obtain ⟨ev,eo,so,co,⟨hev,hco⟩,R⟩:=RULES CC;rw [<- hev]
        rw [<- hev] at hloop
        simp only [fpart,part',Tryz.f85,Option.getD] at hloop ⊢
        simp only [S8,R,SG,seval,UT,SC,hlen,eqgV,eqgK,Bool.not_not,h1,h2,h3,h4,h5,h6,h7,h7']
        generalize hE:ev (Code.loop _) _=z
        have hz:∃ e' bx',z=some (.exit 0,⟨e',bx'⟩):=by
         rw [<- hE]
         refine hloop _ _ ?_ ?_
         · simp only [S7,R,seval,hx0]
         · simp only [S7,R,seval]
        obtain ⟨e',bx',he⟩:=hz
        subst he
        simp only [S8,R,seval]
        exact ⟨_,rfl⟩
theorem op_expr_Same (t:Tr) (k n m:Int) (nm:List UInt8) (v:Vl) (key:Ky) (bx):callOp CC (callL CC) 85 [trV t,leafV k n m nm v key] bx=some (.ret (.bool (smB t k n m nm v key)),bx):=by
 obtain ⟨k',n',m',nm',v',key',kids⟩:=t
 obtain ⟨vk,vn,vs⟩:=v
 obtain ⟨dv,cl,at_⟩:=key
 obtain ⟨vk',vn',vs'⟩:=v'
 obtain ⟨dv',cl',at'⟩:=key'
 have h4:strP .neq nm' nm=some (.bool (!(nm' == nm))):=rfl
 have h5:eqP CC 100 24 (.agg [.int .i64 vk',.int .i64 vn',.str vs']) (.agg [.int .i64 vk,.int .i64 vn,.str vs])=some (!(!(eqVl (vk',vn',vs') (vk,vn,vs)))):=by rw [eqVP,Bool.not_not];rfl
 have h6:eqP CC 100 26 (.agg [.int .i64 dv',.str cl',.str at']) (.agg [.int .i64 dv,.str cl,.str at_])=some (!(!(eqKy (dv',cl',at') (dv,cl,at_)))):=by rw [eqKP,Bool.not_not];rfl
 have hs:=same_expr_Same k' n' m' nm' vk' vn' vs' dv' cl' at' (trVs kids) k n m nm vk vn vs dv cl at_ _ _ _ _ _ _ _ rfl rfl rfl h4 h5 h6 rfl
 obtain ⟨b,hs⟩:=hs
 have he:smB (.mk k' n' m' nm' (vk',vn',vs') (dv',cl',at') kids) k n m nm (vk,vn,vs) (dv,cl,at_)=!((k' != k) || (n' != n) || (m' != m) || (!(nm' == nm)) || (!(eqVl (vk',vn',vs') (vk,vn,vs))) || (!(eqKy (dv',cl',at') (dv,cl,at_))) || (((trVs kids).length:Int) != ((0:Nat):Int))):=by
  unfold smB
  simp only
  have hl:(kids.length == 0)=(((trVs kids).length:Int) == ((0:Nat):Int)):=by
   rw [trVs_length,Bool.eq_iff_iff]
   simp only [beq_iff_eq]
   omega
  rw [hl]
  simp only [bne,Bool.not_or,Bool.not_not]
 rw [he]
 have hp:=trVs_pure kids
 refine callOp_of rfl ?_ (by unfold trV leafV;exact hs) rfl
 rw [pureL_cons,trV_pure]
 rfl
end Go.HH
