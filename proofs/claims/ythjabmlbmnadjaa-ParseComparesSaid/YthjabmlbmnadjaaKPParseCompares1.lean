/-
  What the law needs, packed: UK UW UP UX UY.
-/
import Derived.Test.YthjabmlbmnadjaaK44
namespace Go.HH
open Go Go.Proofs
set_option maxRecDepth 100000
set_option linter.unusedSimpArgs false
set_option linter.unusedVariables false
mutual
def szT:Tr->Nat
 | .mk _ _ _ _ _ _ kids=>1+szTs kids
def szTs:List Tr->Nat
 | []=>0
 | t :: r=>szT t+szTs r
end
mutual
def dpT:Tr->Nat
 | .mk _ _ _ _ _ _ kids=>dpTs kids+1
def dpTs:List Tr->Nat
 | []=>0
 | t :: r=>max (dpT t) (dpTs r)
end
mutual
def okNd:Tr->Prop
 | .mk k n m nm v key kids=>ndT (.mk k n m nm v key kids)=0∧okNds kids
def okNds:List Tr->Prop
 | []=>True
 | t :: r=>okNd t∧okNds r
end
mutual
theorem wk_of (t:Tr) (lv b:Int) (h:(wkT t lv b).2=0):(wkT t lv b).1=b+szT t∧lv+dpT t<=25∧b+szT t<=200∧okNd t:=by
 match t,h with
 | .mk k n m nm v key kids,h=>
  unfold wkT at h ⊢
  unfold szT dpT okNd
  split at h
  · cases h
  · rename_i h1
    split at h
    · cases h
    · rename_i h2
      split at h
      · rename_i h3;exact absurd h h3
      · rename_i h3
        rw [if_neg h1,if_neg h2,if_neg h3]
        obtain ⟨g1,g2,g3,g4⟩:=wks_of kids (lv+1) (b+1) h
        refine ⟨by omega,by omega,by omega,?_,g4⟩
        by_cases c:ndT (.mk k n m nm v key kids)=0
        · exact c
        · exact absurd c h3
theorem wks_of (l:List Tr) (lv b:Int) (h:(wkTs l lv b).2=0):(wkTs l lv b).1=b+szTs l∧(dpTs l=0∨lv+dpTs l<=25)∧(szTs l=0∨b+szTs l<=200)∧okNds l:=by
 match l,h with
 | [],h=>
  unfold wkTs szTs dpTs okNds
  exact ⟨by simp,.inl rfl,.inl rfl,trivial⟩
 | t :: r,h=>
  unfold wkTs at h ⊢
  unfold szTs dpTs okNds
  split at h
  · rename_i h1;exact absurd h h1
  · rename_i h1
    rw [if_neg h1]
    have h0:(wkT t lv b).2=0:=Classical.not_not.1 h1
    obtain ⟨g1,g2,g3,g4⟩:=wk_of t lv b h0
    obtain ⟨f1,f2,f3,f4⟩:=wks_of r lv _ h
    rw [g1] at f1 f3 ⊢
    refine ⟨by omega,.inr ?_,.inr (by omega),g4,f4⟩
    omega
end
mutual
theorem of_wk (t:Tr) (lv b:Int) (h:okNd t) (h1:lv+dpT t<=25) (h2:b+szT t<=200):wkT t lv b=(b+szT t,0):=by
 match t,h with
 | .mk k n m nm v key kids,h=>
  unfold okNd at h
  unfold dpT at h1
  unfold szT at h2 ⊢
  unfold wkT
  rw [if_neg (by omega),if_neg (by omega),if_neg (by rw [h.1];decide),of_wks kids (lv+1) (b+1) h.2 (by omega) (by omega)]
  congr 1;omega
theorem of_wks (l:List Tr) (lv b:Int) (h:okNds l) (h1:dpTs l=0∨lv+dpTs l<=25) (h2:b+szTs l<=200):wkTs l lv b=(b+szTs l,0):=by
 match l,h with
 | [],h=>
  unfold wkTs szTs
  simp
 | t :: r,h=>
  unfold okNds at h
  unfold dpTs at h1
  unfold szTs at h2 ⊢
  have hd:1<=dpT t:=by cases t;unfold dpT;omega
  unfold wkTs
  have ht:=of_wk t lv b h.1 (by omega) (by omega)
  rw [ht,if_neg (by simp)]
  simp only
  rw [of_wks r lv _ h.2 (by omega) (by omega)]
  congr 1;omega
end
theorem ck_of {t:Tr} (h:ckT t=0):szT t<=200∧dpT t<=24∧okNd t:=by
 obtain ⟨_,h2,h3,h4⟩:=wk_of t 1 0 h
 exact ⟨by omega,by omega,h4⟩
theorem of_ck {t:Tr} (h:okNd t) (h1:dpT t<=24) (h2:szT t<=200):ckT t=0:=by
 unfold ckT
 rw [of_wk t 1 0 h (by omega) (by omega)]
theorem nd_two (k:Int) (hk:k=9∨k=10) (a b:Tr):ndT (nodT k [a,b])=0:=by
 rcases hk with rfl | rfl <;> (unfold ndT nodT;rfl)
theorem nd_not (a:Tr):ndT (nodT 6 [a])=0:=by unfold ndT nodT;rfl
theorem ok_two {k:Int} (hk:k=9∨k=10) {a b:Tr} (ha:okNd a) (hb:okNd b):okNd (nodT k [a,b]):=by
 have:=nd_two k hk a b
 unfold nodT at this ⊢
 unfold okNd okNds okNds okNds
 exact ⟨this,ha,hb,trivial⟩
theorem ok_not {a:Tr} (ha:okNd a):okNd (nodT 6 [a]):=by
 have:=nd_not a
 unfold nodT at this ⊢
 unfold okNd okNds okNds
 exact ⟨this,ha,trivial⟩
theorem sz_two (k:Int) (a b:Tr):szT (nodT k [a,b])=1+(szT a+(szT b+0)):=by unfold nodT;rw [szT,szTs,szTs,szTs]
theorem sz_not (a:Tr):szT (nodT 6 [a])=1+(szT a+0):=by unfold nodT;rw [szT,szTs,szTs]
theorem dp_two (k:Int) (a b:Tr):dpT (nodT k [a,b])=max (dpT a) (max (dpT b) 0)+1:=by unfold nodT;rw [dpT,dpTs,dpTs,dpTs]
theorem dp_not (a:Tr):dpT (nodT 6 [a])=max (dpT a) 0+1:=by unfold nodT;rw [dpT,dpTs,dpTs]
theorem ck_cmp (k:Nat) {a b:Tr} (ha:ckT a=0) (hb:ckT b=0) (hs:szT a+szT b<=100) (da:dpT a<=20) (db:dpT b<=20):ckT (cmpT k a b)=0:=by
 obtain ⟨_,_,oa⟩:=ck_of ha
 obtain ⟨_,_,ob⟩:=ck_of hb
 have two:∀ (q:Int) (x y:Tr),q=9∨q=10->okNd x->okNd y->szT x+szT y<=100->dpT x<=20->dpT y<=20->ckT (nodT q [x,y])=0∧ckT (nodT 6 [nodT q [x,y]])=0:=fun q x y hq ox oy h1 h2 h3=>
  ⟨of_ck (ok_two hq ox oy) (by rw [dp_two];omega) (by rw [sz_two];omega),of_ck (ok_not (ok_two hq ox oy)) (by rw [dp_not,dp_two];omega) (by rw [sz_not,sz_two];omega)⟩
 match k with
 | 0=>exact (two 9 a b (.inl rfl) oa ob hs da db).1
 | 1=>exact (two 9 a b (.inl rfl) oa ob hs da db).2
 | 2=>exact (two 10 a b (.inr rfl) oa ob hs da db).1
 | 3=>exact (two 10 a b (.inr rfl) oa ob hs da db).2
 | 4=>exact (two 10 b a (.inr rfl) ob oa (by omega) db da).1
 | k+5=>exact (two 10 b a (.inr rfl) ob oa (by omega) db da).2
theorem toks_op (w u:List UInt8) (c:UInt8) (n:Nat) (hw:w.length=n) (hn:1<=n) (hu:u.length<=3890) (hn2:n<=2) (h0:(toks u).2.2=0) (e0:atL (w++u) 0=c.toNat) (b1:¬ (c.toNat=32∨c.toNat=9∨c.toNat=10)) (b1':c.toNat≠35) (b2:sm c.toNat=false) (b3:dg c.toNat=false) (b4:c.toNat≠34) (b5:opLen (w++u) 0=n):toks (w++u)=((4,w,0) :: (toks u).1.map (moK n),0,0):=by
 have hl:(w++u).length=n+u.length:=by rw [List.length_append,hw]
 have h1:sk (w++u) 0=0:=by
  rw [sk_eq (Nat.zero_le _),if_pos (by omega),e0,if_neg b1,if_neg (fun h=>b1' h.1)]
 have ho:oneL (w++u) 0=.inl ((4,w,0),n):=by
  unfold oneL
  simp only
  rw [b5,e0,b2,b3,if_neg (by decide),if_neg (by decide),if_neg b4,if_neg (by omega),Nat.zero_add,List.drop_zero,<- hw,List.take_left]
 have h2:=toks_suf w u [(4,w,0)] (by simp;omega)
 have h3:sk (w++u) n=n+sk u 0:=by
  have:=sk_suf w u u.length 0 (by omega) (by omega)
  rw [hw] at this
  exact this
 rw [toks_eq (by omega),h1,tk_eq _ (Nat.zero_le _),if_pos (by omega),if_neg (by decide),ho]
 simp only
 rw [hw] at h2
 rw [h3,List.nil_append,h2,<- toks_eq (by omega)]
 unfold moR
 rw [if_pos h0]
 rfl
theorem opLen1 (u:List UInt8) (c:UInt8) (h1:op1 c.toNat=true) (h2:¬ (atL u 0=61∧op2 c.toNat=true)):opLen (c :: u) 0=1:=by
 unfold opLen
 rw [show atL (c :: u) 0=c.toNat from rfl,show atL (c :: u) (0+1)=atL u 0 from rfl,if_neg h2,if_pos h1]
theorem opLen2 (u:List UInt8) (c:UInt8) (h2:op2 c.toNat=true):opLen (c :: 61 :: u) 0=2:=by
 unfold opLen
 rw [show atL (c :: 61 :: u) 0=c.toNat from rfl,show atL (c :: 61 :: u) (0+1)=61 from rfl,if_pos ⟨rfl,h2⟩]
theorem toks_op_b (op u:List UInt8) (hop:op ∈ cmpWs) (hu:u.length<=3890) (h0:(toks u).2.2=0) (h61:atL u 0≠61):toks (op++u)=((4,op,0) :: (toks u).1.map (moK op.length),0,0):=by
 simp only [cmpWs,List.mem_cons,List.not_mem_nil,or_false] at hop
 rcases hop with rfl | rfl | rfl | rfl | rfl | rfl
 · exact toks_op _ u 61 2 rfl (by decide) hu (by decide) h0 rfl (by decide) (by decide) (by decide) (by decide) (by decide) (opLen2 u 61 (by decide))
 · exact toks_op _ u 33 2 rfl (by decide) hu (by decide) h0 rfl (by decide) (by decide) (by decide) (by decide) (by decide) (opLen2 u 33 (by decide))
 · exact toks_op _ u 60 1 rfl (by decide) hu (by decide) h0 rfl (by decide) (by decide) (by decide) (by decide) (by decide) (opLen1 u 60 (by decide) (fun h=>h61 h.1))
 · exact toks_op _ u 62 2 rfl (by decide) hu (by decide) h0 rfl (by decide) (by decide) (by decide) (by decide) (by decide) (opLen2 u 62 (by decide))
 · exact toks_op _ u 62 1 rfl (by decide) hu (by decide) h0 rfl (by decide) (by decide) (by decide) (by decide) (by decide) (opLen1 u 62 (by decide) (fun h=>h61 h.1))
 · exact toks_op _ u 60 2 rfl (by decide) hu (by decide) h0 rfl (by decide) (by decide) (by decide) (by decide) (by decide) (opLen2 u 60 (by decide))
theorem toks_mid (op v:List UInt8) (hop:op ∈ cmpWs) (hv:v.length<=3800) (h0:(toks v).2.2=0):∃ a b c n,toks (41 :: (op++40 :: v))=((4,[41],a) :: (4,op,b) :: (4,[40],c) :: (toks v).1.map (moK n),0,0):=by
 have ho:=toks_open v (by omega) h0
 have hl:op.length<=2:=by
  simp only [cmpWs,List.mem_cons,List.not_mem_nil,or_false] at hop
  rcases hop with rfl | rfl | rfl | rfl | rfl | rfl <;> decide
 have h1:=toks_op_b op (40 :: v) hop (by simp;omega) (by rw [ho]) (by show (40:Nat)≠61;decide)
 have h2:=toks_op [41] (op++40 :: v) 41 1 rfl (by decide) (by simp;omega) (by decide) (by rw [h1]) rfl (by decide) (by decide) (by decide) (by decide) (by decide) (opLen1 _ 41 (by decide) (fun h=>absurd h.2 (by decide)))
 rw [h1,ho] at h2
 refine ⟨0,1+0,1+(op.length+0),1+(op.length+1),h2.trans ?_⟩
 simp only [List.map_cons,List.map_map,moK]
 congr 4
 apply List.map_congr_left
 intro x _
 simp only [Function.comp,moK]
 congr 2;omega
theorem cmp_read {M:List Tk} {m k:Nat} {a b:Tr} {i j:Nat} {op:List UInt8} (hop:pickW M 4 i cmpWs 0=some k) (hi:(tokAt M i).1=4) (hn:(tokAt M i).2.1=op) (hopm:op ∈ cmpWs) (h0:(tokAt M 0).1=4∧(tokAt M 0).2.1=[40]) (h1:(tokAt M (i+1)).1=4∧(tokAt M (i+1)).2.1=[40])
 (ha:pz M m .expr 1 1=.ok a (i - 1)) (hi2:2<=i) (hca:isT M 4 [41] (i - 1)=true) (hb:pz M m .expr 1 (i+2)=.ok b j) (hcb:isT M 4 [41] j=true) (he:(tokAt M (j+1)).1=0):pz M (m+9) .expr 0 0=.ok (cmpT k a b) (j+1):=by
 have a1:=up_paren (M:=M) (o:=0) (i:=0) ha (by decide) h0.1 h0.2 hca
 rw [show i - 1+1=i from by omega] at a1
 have ne:∀ w,(op == w)=false->isT M 4 w i=false:=fun w hw=>isT_tne hn hw
 have hne:(op == [42])=false∧(op == [43])=false∧(op == [45])=false:=by
  simp only [cmpWs,List.mem_cons,List.not_mem_nil,or_false] at hopm
  rcases hopm with rfl | rfl | rfl | rfl | rfl | rfl <;> decide
 have a2:=up_sum a1 (isT_tne h0.2 (by decide)) (ne _ hne.1) (ne _ hne.2.1) (ne _ hne.2.2)
 have b1:=up_paren (M:=M) (o:=0) (i:=i+1) hb (by decide) h1.1 h1.2 hcb
 have q:∀ w,isT M 4 w (j+1)=false:=fun w=>isT_zero he (by decide)
 have b2:=up_sum b1 (isT_tne h1.2 (by decide)) (q _) (q _) (q _)
 have c:pz M (m+1+3+1) .cmp 0 0=.ok (cmpT k a b) (j+1):=by
  rw [pz]
  refine bind_to a2 ?_
  rw [hop]
  exact bind_to b2 rfl
 exact up_expr c h0.1 he
theorem pick_op {M:List Tk} {i k:Nat} {op:List UInt8} (hk:cmpWs[k]?=some op) (hi:(tokAt M i).1=4) (hn:(tokAt M i).2.1=op):pickW M 4 i cmpWs 0=some k:=by
 have e:∀ w,isT M 4 w i=(op == w):=fun w=>by unfold isT;rw [hi,hn];rfl
 have hk6:k < 6:=(List.getElem?_eq_some_iff.1 hk).1
 simp only [cmpWs,pickW,e]
 match k,hk,hk6 with
 | 0,hk,_=>injection hk with hk;subst hk;rfl
 | 1,hk,_=>injection hk with hk;subst hk;rfl
 | 2,hk,_=>injection hk with hk;subst hk;rfl
 | 3,hk,_=>injection hk with hk;subst hk;rfl
 | 4,hk,_=>injection hk with hk;subst hk;rfl
 | 5,hk,_=>injection hk with hk;subst hk;rfl
theorem compares_law {s t:List UInt8} (hs:s.length<=100) (ht:t.length<=100) (h:(exprA s).2.2=0) (h':(exprA t).2.2=0) (hz:szT (exprA s).1+szT (exprA t).1<=100) (da:dpT (exprA s).1<=20) (db:dpT (exprA t).1<=20) {k:Nat} {op:List UInt8} (hk:cmpWs[k]?=some op):exprA (40 :: joinL s (41 :: (op++40 :: joinL t [41])))=(cmpT k (exprA s).1 (exprA t).1,0,0):=by
 obtain ⟨r,r1,r2,r3,hT,r4,r5⟩:=exprA_ok (by omega) h
 obtain ⟨q,q1,q2,q3,hU,q4,q5⟩:=exprA_ok (by omega) h'
 have hopm:op ∈ cmpWs:=List.mem_of_getElem? hk
 have hl:op.length<=2:=by
  have:=hopm
  simp only [cmpWs,List.mem_cons,List.not_mem_nil,or_false] at this
  rcases this with rfl | rfl | rfl | rfl | rfl | rfl <;> decide
 -- the tokens
 have hjt:=joinL_length t [41]
 have t1:∃ x y,toks (joinL t [41])=(q++[(4,[41],x),(0,[],y)],0,0):=by
  obtain ⟨_,h2⟩:=toks_join t [41] (by omega) (by simp;omega)
  obtain ⟨r',g1,g2,g3⟩:=h2 (by rw [q1])
  have hr:r'=q:=by
   rw [q1] at g1
   exact (app_end (Prod.mk.inj g1).1).symm
  subst hr
  rw [toks_close] at g3
  exact ⟨t.length+1+0,t.length+1+1,g3⟩
 obtain ⟨x1,y1,t1⟩:=t1
 obtain ⟨x2,x3,x4,n2,t2⟩:=toks_mid op (joinL t [41]) hopm (by rw [hjt];simp;omega) (by rw [t1])
 rw [t1] at t2
 have hmid:(41 :: (op++40 :: joinL t [41]):List UInt8).length<=200:=by simp [hjt];omega
 have t3:∃ z1 z2 z3 z4 z5 n3,toks (joinL s (41 :: (op++40 :: joinL t [41])))=(r++(4,[41],z1) :: (4,op,z2) :: (4,[40],z3) :: (q.map (moK n3)++[(4,[41],z4),(0,[],z5)]),0,0):=by
  obtain ⟨_,h2⟩:=toks_join s (41 :: (op++40 :: joinL t [41])) (by omega) (by omega)
  obtain ⟨r',g1,g2,g3⟩:=h2 (by rw [r1])
  have hr:r'=r:=by
   rw [r1] at g1
   exact (app_end (Prod.mk.inj g1).1).symm
  subst hr
  rw [t2] at g3
  refine ⟨s.length+1+x2,s.length+1+x3,s.length+1+x4,s.length+1+(n2+x1),s.length+1+(n2+y1),s.length+1+n2,g3.trans ?_⟩
  unfold moR
  rw [if_pos rfl]
  simp only [List.map_cons,List.map_append,List.map_nil,List.map_map,moK]
  congr 6
  apply List.map_congr_left
  intro x _
  simp only [Function.comp,moK]
  congr 2;omega
 obtain ⟨z1,z2,z3,z4,z5,n3,t3⟩:=t3
 have hjs:=joinL_length s (41 :: (op++40 :: joinL t [41]))
 have t4:=toks_open _ (by rw [hjs];omega) (by rw [t3]:(toks (joinL s (41 :: (op++40 :: joinL t [41])))).2.2=0)
 rw [t3] at t4
 simp only [List.map_append,List.map_cons,List.map_nil,List.map_map,moK] at t4
 have hqm:q.map (moK 1 ∘ moK n3)=q.map (moK (1+n3)):=by
  congr 1
  funext x
  simp only [Function.comp,moK]
  congr 2;omega
 rw [hqm] at t4
 generalize (exprA s).1=a at *
 generalize (exprA t).1=b at *
 clear t1 t2 t3 hqm hjs hjt
 have hlen:(r++[(0,[],s.length)]).length=r.length+1:=by rw [List.length_append];rfl
 have hlen2:(q++[(0,[],t.length)]).length=q.length+1:=by rw [List.length_append];rfl
 generalize 1+z1=z1 at *
 generalize 1+z2=z2 at *
 generalize 1+z3=z3 at *
 generalize 1+z4=z4 at *
 generalize 1+z5=z5 at *
 generalize 1+n3=n3 at *
 have e1:=edge_in (r:=r) (A:=[(4,[40],0)]) (B:=(4,op,z2) :: (4,[40],z3) :: (q.map (moK n3)++[(4,[41],z4),(0,[],z5)])) (n:=1) (m:=0) (x:=(0,[],s.length)) (y:=(4,[41],z1)) rfl ⟨rfl,rfl⟩
 have e2:=edge_in (r:=q) (A:=(4,[40],0) :: (r.map (moK 1)++[(4,[41],z1),(4,op,z2),(4,[40],z3)])) (B:=[(0,[],z5)]) (n:=n3) (m:=0) (x:=(0,[],t.length)) (y:=(4,[41],z4)) rfl ⟨rfl,rfl⟩
 have hA:((4,[40],0) :: (r.map (moK 1)++[(4,[41],z1),(4,op,z2),(4,[40],z3)])).length=r.length+4:=by simp
 rw [hA] at e2
 have hM:((4,[40],0) :: (r.map (moK 1)++[(4,[41],z1),(4,op,z2),(4,[40],z3)]))++(q.map (moK n3)++[(4,[41],z4),(0,[],z5)])=(4,[40],0) :: (r.map (moK 1)++(4,[41],z1) :: (4,op,z2) :: (4,[40],z3) :: (q.map (moK n3)++[(4,[41],z4),(0,[],z5)])):=by simp
 rw [hM] at e2
 have e1':edgeL (r++[(0,[],s.length)]) ((4,[40],0) :: (r.map (moK 1)++(4,[41],z1) :: (4,op,z2) :: (4,[40],z3) :: (q.map (moK n3)++[(4,[41],z4),(0,[],z5)]))) 1 r.length:=e1
 clear e1
 have hat:∀ j,tokAt ((4,[40],0) :: (r.map (moK 1)++(4,[41],z1) :: (4,op,z2) :: (4,[40],z3) :: (q.map (moK n3)++[(4,[41],z4),(0,[],z5)]))) (r.length+1+j)=tokAt ((4,[41],z1) :: (4,op,z2) :: (4,[40],z3) :: (q.map (moK n3)++[(4,[41],z4),(0,[],z5)])) j:=fun j=>by
  rw [show r.length+1+j=(r.length+j)+1 from by omega,tokAt_cons]
  have:=tokAt_app (r:=r.map (moK 1)) (t:=(4,[41],z1) :: (4,op,z2) :: (4,[40],z3) :: (q.map (moK n3)++[(4,[41],z4),(0,[],z5)])) j
  rw [List.length_map] at this
  exact this
 have hat2:∀ j,tokAt ((4,[41],z1) :: (4,op,z2) :: (4,[40],z3) :: (q.map (moK n3)++[(4,[41],z4),(0,[],z5)])) (q.length+3+j)=tokAt [(4,[41],z4),(0,[],z5)] j:=fun j=>by
  rw [show q.length+3+j=(q.length+j)+1+1+1 from by omega,tokAt_cons,tokAt_cons,tokAt_cons]
  have:=tokAt_app (r:=q.map (moK n3)) (t:=[(4,[41],z4),(0,[],z5)]) j
  rw [List.length_map] at this
  exact this
 have hML:((4,[40],0) :: (r.map (moK 1)++(4,[41],z1) :: (4,op,z2) :: (4,[40],z3) :: (q.map (moK n3)++[(4,[41],z4),(0,[],z5)]))).length=r.length+q.length+6:=by simp;omega
 have k0:tokAt ((4,[40],0) :: (r.map (moK 1)++(4,[41],z1) :: (4,op,z2) :: (4,[40],z3) :: (q.map (moK n3)++[(4,[41],z4),(0,[],z5)]))) 0=(4,[40],0):=rfl
 have k1:=hat 0
 have k2:=hat 1
 have k3:=hat 2
 have k4:=hat (q.length+3)
 have k5:=hat (q.length+3+1)
 have k4':=hat2 0
 have k5':=hat2 1
 rw [Nat.add_zero] at k4'
 rw [k4'] at k4
 rw [k5'] at k5
 clear hat hat2 hM k4' k5'
 generalize (4,[40],0) :: (r.map (moK 1)++(4,[41],z1) :: (4,op,z2) :: (4,[40],z3) :: (q.map (moK n3)++[(4,[41],z4),(0,[],z5)]))=M at *
 have hf1:fuN (r++[(0,[],s.length)])<=fuN M - 9:=by unfold fuN;rw [hlen,hML];omega
 have hf2:fuN (q++[(0,[],t.length)])<=fuN M - 9:=by unfold fuN;rw [hlen2,hML];omega
 have hf9:fuN M - 9+9=fuN M:=by unfold fuN;omega
 have p1:=pz_mv hT (by rw [hlen,hML];omega) (d:=1) _ _ _ _ _ _ _ hf1 hT.pos e1' (by omega) r4
 have p2:=pz_mv hU (by rw [hlen2,hML];omega) (d:=1) _ _ _ _ _ _ _ hf2 hU.pos e2 (by omega) q4
 have k1t:tokAt M (r.length+1+0)=(4,[41],z1):=k1
 have k2t:tokAt M (r.length+1+1)=(4,op,z2):=k2
 have k3t:tokAt M (r.length+1+2)=(4,[40],z3):=k3
 have k4t:tokAt M (r.length+1+(q.length+3))=(4,[41],z4):=k4
 have k5t:tokAt M (r.length+1+(q.length+3+1))=(0,[],z5):=k5
 have hpk:pickW M 4 (r.length+2) cmpWs 0=some k:=pick_op hk (by rw [show r.length+2=r.length+1+1 from rfl,k2t]) (by rw [show r.length+2=r.length+1+1 from rfl,k2t])
 have hfin:=cmp_read (M:=M) (m:=fuN M - 9) (k:=k) (a:=a) (b:=b) (i:=r.length+2) (j:=q.length+(r.length+4)) (op:=op) hpk (by rw [show r.length+2=r.length+1+1 from rfl,k2t]) (by rw [show r.length+2=r.length+1+1 from rfl,k2t]) hopm (by rw [k0];exact ⟨rfl,rfl⟩)
  (by rw [show r.length+2+1=r.length+1+2 from rfl,k3t];exact ⟨rfl,rfl⟩)
  (by rw [show r.length+2 - 1=r.length+1 from rfl];exact p1) (by omega)
  (by rw [show r.length+2 - 1=r.length+1+0 from rfl];exact isT_is (by rw [k1t]) (by rw [k1t]))
  (by rw [Nat.zero_add,Nat.zero_add] at p2;exact p2)
  (by rw [show q.length+(r.length+4)=r.length+1+(q.length+3) from by omega];exact isT_is (by rw [k4t]) (by rw [k4t]))
  (by rw [show q.length+(r.length+4)+1=r.length+1+(q.length+3+1) from by omega,k5t])
 rw [hf9] at hfin
 have hck:=ck_cmp k r5 q5 hz da db
 unfold exprA wholeP
 rw [t4]
 simp only
 rw [if_pos trivial,hfin]
 simp only [PR.bind]
 rw [if_pos hck]
 simp only
 unfold oneP
 rw [if_pos (by rw [show q.length+(r.length+4)+1=r.length+1+(q.length+3+1) from by omega,k5t])]
end Go.HH
namespace Go.HH
open Go Go.Proofs
set_option maxRecDepth 100000
set_option maxHeartbeats 4000000
set_option linter.unusedSimpArgs false
set_option linter.unusedVariables false
theorem ok_R28_Size:fnOK CC Try.f17 (Try.f17.body.getD .skip)=true:=by kernel_rfl
theorem fat_R28_Size:CC.P.funcs[17]?=some Try.f17:=by kernel_rfl
theorem ok_R28_Depth:fnOK CC Try.f18 (Try.f18.body.getD .skip)=true:=by kernel_rfl
theorem fat_R28_Depth:CC.P.funcs[18]?=some Try.f18:=by kernel_rfl
def RSz (t:Tr):Prop:=∃ bx,callL CC 17 [trV t] []=some (.ret (.int .i64 (szT t:Nat)),bx)
theorem op_Sz {t:Tr} (h:RSz t) (bx):callOp CC (callL CC) 17 [trV t] bx=some (.ret (.int .i64 (szT t:Nat)),bx):=by
 obtain ⟨q,hq⟩:=h
 exact callOp_of rfl (by simp only [pureL_cons,trV_pure,pureL_nil,Bool.and_self]) hq rfl
theorem loop_Sz (L:Code) (hL:L=fpart Try.f17 [1,1,0,1,0]) (a0 a1 a2 a3 a4 a5 a6 a7 a8 a9:PV) (l:List Tr) (hl:l.length<=12) (hk:∀ t ∈ l,RSz t):∀ (k i acc:Nat) (e:List PV),i+k=l.length->acc+szTs (l.drop i)<=1000000->getT e 1=.bp 0 0->getT e 3=.int .i64 (acc:Int)->getT e 4=.int .i64 i->∃ e' bx',evL CC L ⟨e,[.cells 34 [a0,a1,a2,a3,a4,a5,a6,a7,a8,a9,.sl (trVs l)]]⟩=some (.exit 0,⟨e',bx'⟩)∧getT e' 3=.int .i64 ((acc+szTs (l.drop i):Nat):Int):=by
 intro k
 induction k with
 | zero=>
  intro i acc e hi0 hb e1 e3 e4
  rw [evL_at (fpart Try.f17 [1,1,0,1,0,0]) hL]
  have hi:¬ ((i:Int) < (l.length:Int)):=by omega
  rw [List.drop_eq_nil_of_le (by omega)]
  unfold szTs
  have hln:=trVs_length l
  generalize trVs l=xs at *
  obtain ⟨ev,eo,so,co,⟨hev,hco⟩,R⟩:=RULES CC;rw [<- hev]
  simp only [fpart,part',Try.f17,Option.getD]
  simp only [S9,R,seval,nchP,dynR,Bool.not_not,e1,e3,e4,hln,hi]
  exact ⟨_,_,rfl,by simp only [S7,R,seval,e3];rfl⟩
 | succ k ih=>
  intro i acc e hi0 hb e1 e3 e4
  rw [evL_at (fpart Try.f17 [1,1,0,1,0,0]) hL]
  have hi:((i:Int) < (l.length:Int)):=by omega
  have hi0':¬ ((i:Int) < 0):=by omega
  have hdr:l.drop i=(l[i]'(by omega)) :: l.drop (i+1):=List.drop_eq_getElem_cons (by omega)
  have hx:l[i]?=some (l[i]'(by omega)):=by simp
  have hst:RSz (l[i]'(by omega)):=hk _ (List.getElem_mem _)
  rw [hdr] at hb ⊢
  unfold szTs at hb ⊢
  generalize l[i]'(by omega)=x at *
  have hx':=trVs_get hx
  have hln:=trVs_length l
  have hw1:=wrap_i64 (n:=(i:Int)+1) ⟨by omega,by omega⟩
  have hw2:IntKind.wrap .i64 ((acc:Int)+(szT x:Int))=((acc+szT x:Nat):Int):=by rw [wrap_i64 ⟨by omega,by omega⟩];omega
  have key:=fun e=>ih (i+1) (acc+szT x) e (by omega) (by omega)
  have cast1:((i+1:Nat):Int)=(i:Int)+1:=by omega
  rw [cast1] at key
  rw [<- Nat.add_assoc]
  have hop:=op_Sz hst
  generalize szT x=sx at *
  generalize szTs (l.drop (i+1))=sr at *
  obtain ⟨xk,xn,xm,xnm,xv,xkey,xkids⟩:=x
  unfold trV at hx' hop
  have hpy:=trVs_pure xkids
  generalize trVs xkids=ys at *
  generalize trVs l=xs at *
  obtain ⟨ev,eo,so,co,⟨hev,hco⟩,R⟩:=RULES CC;rw [<- hev]
  rw [<- hev] at key
  rw [<- hco] at hop
  simp only [fpart,part',Try.f17,Option.getD]
  simp only [S9,R,seval,nchP,dynR,Bool.not_not,e1,e3,e4,hln,hi,hi0',hx',hw1,hw2,hop,hpy,PV.pure,pureL]
  refine key _ ?_ ?_ ?_
  all_goals first | (simp only [S7,R,seval,e1,e3,e4];done) | (simp only [S7,R,seval,e1,e3,e4] <;> rfl)
theorem node_Sz (k n m:Int) (nm:List UInt8) (v:Vl) (key:Ky) (kids:List Tr) (hl12:kids.length<=12) (hb:1+szTs kids<=1000000) (hk:∀ t ∈ kids,RSz t):RSz (.mk k n m nm v key kids):=by
 obtain ⟨vk,vn,vs⟩:=v
 obtain ⟨dv,cl,at_⟩:=key
 have hln:=trVs_length kids
 have hloop:=fun L hL a0 a1 a2 a3 a4 a5 a6 a7 a8 a9 e=>loop_Sz L hL a0 a1 a2 a3 a4 a5 a6 a7 a8 a9 kids hl12 hk kids.length 0 1 e (by omega) (by rw [List.drop_zero];exact hb)
 rw [List.drop_zero] at hloop
 unfold RSz trV szT
 generalize 1+szTs kids=sz at *
 generalize trVs kids=xs at *
 rw [callL_enter (fn:=Try.f17) (c:=Try.f17.body.getD .skip) rfl rfl fat_R28_Size rfl ok_R28_Size (Nat.le_of_ble_eq_true rfl)]
 obtain ⟨ev,eo,so,co,⟨hev,hco⟩,R⟩:=RULES CC;rw [<- hev]
 rw [<- hev] at hloop
 simp only [fpart,part',Try.f17,Option.getD]
 simp only [S9,R,seval,nchP,dynR,Bool.not_not,hln]
 generalize hE:ev (Code.loop _) _=z
 have hP:∃ e' bx',z=some (.exit 0,⟨e',bx'⟩)∧getT e' 3=.int .i64 (sz:Int):=by
  rw [<- hE]
  refine hloop _ rfl _ _ _ _ _ _ _ _ _ _ _ ?_ ?_ ?_
  all_goals first | (simp only [S7,R,seval];done) | (simp only [S7,R,seval] <;> rfl)
 obtain ⟨e',bx',he,g3⟩:=hP
 subst he
 simp only [S8,R,seval,g3]
 exact ⟨_,rfl⟩
mutual
theorem call_Sz (t:Tr) (hs:shT t) (hb:szT t<=1000000):RSz t:=by
 match t,hs,hb with
 | .mk k n m nm v key kids,hs,hb=>
  have h2:shTs kids:=by unfold shT at hs;exact hs.2
  unfold szT at hb
  exact node_Sz k n m nm v key kids (by unfold shT at hs;exact hs.1.2.2.2.2) hb (calls_Sz kids h2 (by omega))
theorem calls_Sz (l:List Tr) (hs:shTs l) (hb:szTs l<=1000000):∀ t ∈ l,RSz t:=by
 match l,hs,hb with
 | [],_,_=>intro t ht;simp at ht
 | x :: r,hs,hb=>
  intro t ht
  unfold shTs at hs
  unfold szTs at hb
  rcases List.mem_cons.1 ht with h | h
  · rw [h];exact call_Sz x hs.1 (by omega)
  · exact calls_Sz r hs.2 (by omega) t h
end
def RDp (t:Tr):Prop:=∃ bx,callL CC 18 [trV t] []=some (.ret (.int .i64 (dpT t:Nat)),bx)
theorem op_Dp {t:Tr} (h:RDp t) (bx):callOp CC (callL CC) 18 [trV t] bx=some (.ret (.int .i64 (dpT t:Nat)),bx):=by
 obtain ⟨q,hq⟩:=h
 exact callOp_of rfl (by simp only [pureL_cons,trV_pure,pureL_nil,Bool.and_self]) hq rfl
theorem loop_Dp (L:Code) (hL:L=fpart Try.f18 [1,1,0,1,0]) (a0 a1 a2 a3 a4 a5 a6 a7 a8 a9:PV) (l:List Tr) (hl:l.length<=12) (hk:∀ t ∈ l,RDp t):∀ (k i acc:Nat) (e:List PV),i+k=l.length->getT e 1=.bp 0 0->getT e 3=.int .i64 (acc:Int)->getT e 4=.int .i64 i->∃ e' bx',evL CC L ⟨e,[.cells 34 [a0,a1,a2,a3,a4,a5,a6,a7,a8,a9,.sl (trVs l)]]⟩=some (.exit 0,⟨e',bx'⟩)∧getT e' 3=.int .i64 ((max acc (dpTs (l.drop i)):Nat):Int):=by
 intro k
 induction k with
 | zero=>
  intro i acc e hi0 e1 e3 e4
  rw [evL_at (fpart Try.f18 [1,1,0,1,0,0]) hL]
  have hi:¬ ((i:Int) < (l.length:Int)):=by omega
  rw [List.drop_eq_nil_of_le (by omega)]
  unfold dpTs
  rw [Nat.max_eq_left (Nat.zero_le _)]
  have hln:=trVs_length l
  generalize trVs l=xs at *
  obtain ⟨ev,eo,so,co,⟨hev,hco⟩,R⟩:=RULES CC;rw [<- hev]
  simp only [fpart,part',Try.f18,Option.getD]
  simp only [S9,R,seval,nchP,dynR,Bool.not_not,e1,e3,e4,hln,hi]
  exact ⟨_,_,rfl,by simp only [S7,R,seval,e3]⟩
 | succ k ih=>
  intro i acc e hi0 e1 e3 e4
  rw [evL_at (fpart Try.f18 [1,1,0,1,0,0]) hL]
  have hi:((i:Int) < (l.length:Int)):=by omega
  have hi0':¬ ((i:Int) < 0):=by omega
  have hdr:l.drop i=(l[i]'(by omega)) :: l.drop (i+1):=List.drop_eq_getElem_cons (by omega)
  have hx:l[i]?=some (l[i]'(by omega)):=by simp
  have hst:RDp (l[i]'(by omega)):=hk _ (List.getElem_mem _)
  rw [hdr]
  unfold dpTs
  generalize l[i]'(by omega)=x at *
  have hx':=trVs_get hx
  have hln:=trVs_length l
  have hw1:=wrap_i64 (n:=(i:Int)+1) ⟨by omega,by omega⟩
  have key:=fun acc e=>ih (i+1) acc e (by omega)
  have cast1:((i+1:Nat):Int)=(i:Int)+1:=by omega
  rw [cast1] at key
  have hop:=op_Dp hst
  by_cases hc:acc < dpT x
  · have hc':((dpT x:Nat):Int) > (acc:Int):=by omega
    rw [<- Nat.max_assoc,Nat.max_eq_right (by omega:acc<=dpT x)]
    generalize dpT x=sx at *
    generalize dpTs (l.drop (i+1))=sr at *
    obtain ⟨xk,xn,xm,xnm,xv,xkey,xkids⟩:=x
    unfold trV at hx' hop
    have hpy:=trVs_pure xkids
    generalize trVs xkids=ys at *
    generalize trVs l=xs at *
    obtain ⟨ev,eo,so,co,⟨hev,hco⟩,R⟩:=RULES CC;rw [<- hev]
    rw [<- hev] at key
    rw [<- hco] at hop
    simp only [fpart,part',Try.f18,Option.getD]
    simp only [S9,R,seval,nchP,dynR,Bool.not_not,e1,e3,e4,hln,hi,hi0',hx',hw1,hc',hop,hpy,PV.pure,pureL]
    refine key sx _ ?_ ?_ ?_
    all_goals first | (simp only [S7,R,seval,e1,e3,e4];done) | (simp only [S7,R,seval,e1,e3,e4] <;> rfl)
  · have hc':¬ (((dpT x:Nat):Int) > (acc:Int)):=by omega
    rw [<- Nat.max_assoc,Nat.max_eq_left (by omega:dpT x<=acc)]
    generalize dpT x=sx at *
    generalize dpTs (l.drop (i+1))=sr at *
    obtain ⟨xk,xn,xm,xnm,xv,xkey,xkids⟩:=x
    unfold trV at hx' hop
    have hpy:=trVs_pure xkids
    generalize trVs xkids=ys at *
    generalize trVs l=xs at *
    obtain ⟨ev,eo,so,co,⟨hev,hco⟩,R⟩:=RULES CC;rw [<- hev]
    rw [<- hev] at key
    rw [<- hco] at hop
    simp only [fpart,part',Try.f18,Option.getD]
    simp only [S9,R,seval,nchP,dynR,Bool.not_not,e1,e3,e4,hln,hi,hi0',hx',hw1,hc',hop,hpy,PV.pure,pureL]
    refine key acc _ ?_ ?_ ?_
    all_goals first | (simp only [S7,R,seval,e1,e3,e4];done) | (simp only [S7,R,seval,e1,e3,e4] <;> rfl)
theorem node_Dp (k n m:Int) (nm:List UInt8) (v:Vl) (key:Ky) (kids:List Tr) (hl12:kids.length<=12) (hb:dpTs kids<=1000000) (hk:∀ t ∈ kids,RDp t):RDp (.mk k n m nm v key kids):=by
 obtain ⟨vk,vn,vs⟩:=v
 obtain ⟨dv,cl,at_⟩:=key
 have hln:=trVs_length kids
 have hloop:=fun L hL a0 a1 a2 a3 a4 a5 a6 a7 a8 a9 e=>loop_Dp L hL a0 a1 a2 a3 a4 a5 a6 a7 a8 a9 kids hl12 hk kids.length 0 0 e (by omega)
 rw [List.drop_zero,Nat.max_eq_right (Nat.zero_le _)] at hloop
 unfold RDp trV dpT
 have hw:IntKind.wrap .i64 ((dpTs kids:Int)+1)=((dpTs kids+1:Nat):Int):=by rw [wrap_i64 ⟨by omega,by omega⟩];omega
 generalize dpTs kids+1=sz at *
 generalize dpTs kids=sy at *
 generalize trVs kids=xs at *
 rw [callL_enter (fn:=Try.f18) (c:=Try.f18.body.getD .skip) rfl rfl fat_R28_Depth rfl ok_R28_Depth (Nat.le_of_ble_eq_true rfl)]
 obtain ⟨ev,eo,so,co,⟨hev,hco⟩,R⟩:=RULES CC;rw [<- hev]
 rw [<- hev] at hloop
 simp only [fpart,part',Try.f18,Option.getD]
 simp only [S9,R,seval,nchP,dynR,Bool.not_not,hln]
 generalize hE:ev (Code.loop _) _=z
 have hP:∃ e' bx',z=some (.exit 0,⟨e',bx'⟩)∧getT e' 3=.int .i64 (sy:Int):=by
  rw [<- hE]
  refine hloop _ rfl _ _ _ _ _ _ _ _ _ _ _ ?_ ?_ ?_
  all_goals first | (simp only [S7,R,seval];done) | (simp only [S7,R,seval] <;> rfl)
 obtain ⟨e',bx',he,g3⟩:=hP
 subst he
 simp only [S9,R,seval,nchP,dynR,Bool.not_not,g3,hw]
 exact ⟨_,rfl⟩
mutual
theorem dp_sz (t:Tr):dpT t<=szT t:=by
 match t with
 | .mk k n m nm v key kids=>
  have:=dps_sz kids
  unfold dpT szT
  omega
theorem dps_sz (l:List Tr):dpTs l<=szTs l:=by
 match l with
 | []=>unfold dpTs szTs;exact Nat.le_refl _
 | x :: r=>
  have h1:=dp_sz x
  have h2:=dps_sz r
  unfold dpTs szTs
  omega
end
mutual
theorem call_Dp (t:Tr) (hs:shT t) (hb:szT t<=1000000):RDp t:=by
 match t,hs,hb with
 | .mk k n m nm v key kids,hs,hb=>
  have h2:shTs kids:=by unfold shT at hs;exact hs.2
  have h3:=dps_sz kids
  unfold szT at hb
  exact node_Dp k n m nm v key kids (by unfold shT at hs;exact hs.1.2.2.2.2) (by omega) (calls_Dp kids h2 (by omega))
theorem calls_Dp (l:List Tr) (hs:shTs l) (hb:szTs l<=1000000):∀ t ∈ l,RDp t:=by
 match l,hs,hb with
 | [],_,_=>intro t ht;simp at ht
 | x :: r,hs,hb=>
  intro t ht
  unfold shTs at hs
  unfold szTs at hb
  rcases List.mem_cons.1 ht with h | h
  · rw [h];exact call_Dp x hs.1 (by omega)
  · exact calls_Dp r hs.2 (by omega) t h
end
theorem szE (t:Tr) (hs:shT t) (hb:szT t<=1000000) (bx):callOp CC (callL CC) 17 [.agg (exC t)] bx=some (.ret (.int .i64 (szT t:Nat)),bx):=by rw [<- trV_exC];exact op_Sz (call_Sz t hs hb) bx
theorem dpE (t:Tr) (hs:shT t) (hb:szT t<=1000000) (bx):callOp CC (callL CC) 18 [.agg (exC t)] bx=some (.ret (.int .i64 (dpT t:Nat)),bx):=by rw [<- trV_exC];exact op_Dp (call_Dp t hs hb) bx
end Go.HH
namespace Go.HH
open Go
set_option maxRecDepth 100000
set_option linter.unusedVariables false
theorem nodup_sub:∀ (l m:List Nat),l.Nodup->(∀ x ∈ l,x ∈ m)->l.length<=m.length
 | [],_,_,_=>Nat.zero_le _
 | x :: l,m,hn,hs=>by
  rw [List.nodup_cons] at hn
  have hx:=hs x (List.mem_cons_self ..)
  have h:=nodup_sub l (m.erase x) hn.2 (fun y hy=>(List.mem_erase_of_ne (fun e:y=x=>hn.1 (by rw [<- e];exact hy))).2 (hs y (List.mem_cons_of_mem _ hy)))
  rw [List.length_erase_of_mem hx] at h
  have:=List.length_pos_of_mem hx
  rw [List.length_cons]
  omega
theorem orderGo_ok (ops:Array Oper):∀ (k:Nat) (acc l:List Nat),acc.Nodup->(∀ x ∈ acc,x < ops.size)->l ∈ orderGo ops k acc->l.Nodup∧(∀ x ∈ l,x < ops.size)∧l.length=acc.length+k
 | 0,acc,l,h1,h2,h=>by
  simp only [orderGo,List.mem_singleton] at h
  subst h
  exact ⟨by unfold List.Nodup at h1 ⊢;rw [List.pairwise_reverse];exact h1.imp (fun h=>Ne.symm h),fun x hx=>h2 x (List.mem_reverse.1 hx),List.length_reverse ..⟩
 | k+1,acc,l,h1,h2,h=>by
  unfold orderGo at h
  rw [List.mem_flatMap] at h
  obtain ⟨i,hi,h⟩:=h
  split at h
  · rename_i hr
    have hr2:=hr
    unfold readyB at hr2
    rw [Bool.and_eq_true] at hr2
    have hn:i ∉ acc:=fun hm=>by
     have:=List.contains_iff_mem.2 hm
     rw [this] at hr2
     cases hr2.1
    obtain ⟨g1,g2,g3⟩:=orderGo_ok ops k (i :: acc) l (List.nodup_cons.2 ⟨hn,h1⟩) (fun x hx=>by
     rcases List.mem_cons.1 hx with rfl | hx
     · exact List.mem_range.1 hi
     · exact h2 x hx) h
    exact ⟨g1,g2,by rw [g3,List.length_cons];omega⟩
  · cases h
theorem orders_all (ops:Array Oper):((orders ops).all fun l=>(List.range ops.size).all fun j=>l.contains j)=true:=by
 rw [List.all_eq_true]
 intro l hl
 obtain ⟨g1,g2,g3⟩:=orderGo_ok ops ops.size [] l List.nodup_nil (fun x hx=>by cases hx) hl
 rw [List.length_nil,Nat.zero_add] at g3
 rw [List.all_eq_true]
 intro j hj
 rw [List.contains_iff_mem]
 by_cases h:j ∈ l
 · exact h
 · exfalso
   have hjr:=List.mem_range.1 hj
   have h5:=nodup_sub (j :: l) (List.range ops.size) (List.nodup_cons.2 ⟨h,g1⟩) (fun x hx=>by
    rcases List.mem_cons.1 hx with rfl | hx
    · exact hj
    · exact List.mem_range.2 (g2 x hx))
   rw [List.length_cons,List.length_range] at h5
   omega
def backB (ops:Array Oper):Bool:=(List.range ops.size).all fun i=>match ops[i]? with
 | some o=>o.after.toList.all fun e=>!Region.binds .any e || decide (e.on < i)
 | none=>false
theorem orders_ne {ops:Array Oper} (h:backB ops=true):(orders ops).isEmpty=false:=by
 have hb:=List.all_eq_true.1 h
 have go:∀ (k m:Nat),m+k=ops.size->∃ l,l ∈ orderGo ops k (List.range m).reverse:=by
  intro k
  induction k with
  | zero=>intro m hm;exact ⟨_,List.mem_singleton.2 rfl⟩
  | succ k ih=>
   intro m hm
   obtain ⟨l,hl⟩:=ih (m+1) (by omega)
   refine ⟨l,?_⟩
   unfold orderGo
   rw [List.mem_flatMap]
   refine ⟨m,List.mem_range.2 (by omega),?_⟩
   have hr:readyB ops (List.range m).reverse m=true:=by
    have h1:=hb m (List.mem_range.2 (by omega))
    unfold readyB
    rw [Bool.and_eq_true]
    refine ⟨?_,?_⟩
    · rw [Bool.not_eq_true']
      cases hc:(List.range m).reverse.contains m with
      | false=>rfl
      | true=>
       have:=List.mem_range.1 (List.mem_reverse.1 (List.contains_iff_mem.1 hc))
       omega
    · cases ho:ops[m]? with
      | none=>rw [ho] at h1;cases h1
      | some o=>
       rw [ho] at h1
       rw [List.all_eq_true] at h1 ⊢
       intro e he
       have:=h1 e he
       rw [Bool.or_eq_true] at this ⊢
       rcases this with h2 | h2
       · exact .inl h2
       · exact .inr (List.contains_iff_mem.2 (List.mem_reverse.2 (List.mem_range.2 (of_decide_eq_true h2))))
   rw [hr,if_pos rfl,show m :: (List.range m).reverse=(List.range (m+1)).reverse from by rw [List.range_succ,List.reverse_append];rfl]
   exact hl
 obtain ⟨l,hl⟩:=go ops.size 0 (Nat.zero_add _)
 unfold orders
 cases hc:orderGo ops ops.size [] with
 | nil=>rw [show (List.range 0).reverse=([]:List Nat) from rfl,hc] at hl;cases hl
 | cons a r=>rfl
end Go.HH
namespace Go.HH
open Go Go.Proofs
set_option maxRecDepth 100000
set_option maxHeartbeats 4000000
set_option linter.unusedSimpArgs false
set_option linter.unusedVariables false
theorem okB_pc:fnOKB CC Try.f7 (Try.f7.body.getD .skip)=true:=by kernel_rfl
theorem noB_pc:fnOK CC Try.f7 (Try.f7.body.getD .skip)=false:=by kernel_rfl
theorem fat_pc:CC.P.funcs[7]?=some Try.f7:=by kernel_rfl
theorem draw_no_pc:drawOK CC (opsOf (fpart Try.f7 [1,1,1,1,1,1,0]))=false:=by kernel_rfl
theorem back_pc:backB (opsOf (fpart Try.f7 [1,1,1,1,1,1,0]))=true:=by kernel_rfl
theorem size_pc:(opsOf (fpart Try.f7 [1,1,1,1,1,1,0])).size=24:=by kernel_rfl
def pcW (a b:Tr):List Tr:=[nodT 10 [a,b],nodT 10 [b,a],nodT 6 [nodT 10 [a,b]],nodT 6 [nodT 10 [b,a]],nodT 9 [a,b],nodT 6 [nodT 9 [a,b]]]
def pcC (a b:Tr):List PV:=exC (nodT 10 [a,b])++exC (nodT 10 [b,a])++exC (nodT 6 [nodT 10 [a,b]])++exC (nodT 6 [nodT 10 [b,a]])++exC (nodT 9 [a,b])++exC (nodT 6 [nodT 9 [a,b]])
def pcZ:List PV:=zeroE++zeroE++zeroE++zeroE++zeroE++zeroE
theorem pcZ_zero:zeroCells CC 53=some pcZ:=by kernel_rfl
theorem pcB (a b:Tr):buildP CC 53 [(0,.agg (exC (nodT 10 [a,b]))),(1,.agg (exC (nodT 10 [b,a]))),(2,.agg (exC (nodT 6 [nodT 10 [a,b]]))),(3,.agg (exC (nodT 6 [nodT 10 [b,a]]))),(4,.agg (exC (nodT 9 [a,b]))),(5,.agg (exC (nodT 6 [nodT 9 [a,b]])))]=some (.agg (pcC a b)):=by
 unfold pcC
 simp only [exC_nod]
 generalize trVs [a,b]=x1
 generalize trVs [b,a]=x2
 generalize trVs [nodT 10 [a,b]]=x3
 generalize trVs [nodT 10 [b,a]]=x4
 generalize trVs [nodT 9 [a,b]]=x5
 kernel_rfl
theorem pcC_len (a b:Tr):(pcC a b).length=66:=by unfold pcC;simp only [List.length_append,exC_len]
theorem pcF (a b:Tr):(pcC a b).length=66∧(pcC a b).take 66=pcC a b∧(pcC a b).drop 66=[]∧(pcC a b).map PV.ro=pcC a b∧(pcC a b).map PV.seal1=pcC a b∧(pcC a b).all PV.one=true∧pcZ.length=66∧pcZ.drop 66=[]∧pcZ.take 66=pcZ:=by
 refine ⟨pcC_len a b,List.take_of_length_le (by rw [pcC_len];exact Nat.le_refl _),List.drop_of_length_le (by rw [pcC_len];exact Nat.le_refl _),?_,?_,?_,rfl,rfl,rfl⟩
 · unfold pcC;simp only [List.map_append,exC_ro]
 · unfold pcC;simp only [List.map_append,exC_seal]
 · unfold pcC;simp only [List.all_append,exC_one,Bool.and_self]
def pcL (a b:Tr):List (Nat×Nat×PV):=[(0,64,.agg (exC a)),(1,65,.agg (exC b)),(2,66,.agg (exC (nodT 10 [a,b]))),(3,67,.agg (exC b)),(4,68,.agg (exC a)),(5,69,.agg (exC (nodT 10 [b,a]))),(6,70,.agg (exC a)),(7,71,.agg (exC b)),(8,72,.agg (exC (nodT 10 [a,b]))),(9,73,.agg (exC (nodT 6 [nodT 10 [a,b]]))),(10,74,.agg (exC b)),(11,75,.agg (exC a)),(12,76,.agg (exC (nodT 10 [b,a]))),(13,77,.agg (exC (nodT 6 [nodT 10 [b,a]]))),(14,78,.agg (exC a)),(15,79,.agg (exC b)),(16,80,.agg (exC (nodT 9 [a,b]))),(17,81,.agg (exC a)),(18,82,.agg (exC b)),(19,83,.agg (exC (nodT 9 [a,b]))),(20,84,.agg (exC (nodT 6 [nodT 9 [a,b]]))),(21,85,.agg (pcC a b)),(22,12,.bp 3 0)]
def pcX (a b:Tr) (B2:PBox) (D:Nat->Bool):List PBox:=[.cells 34 (exC a),.cells 34 (exC b),B2]++(if D 23 then [.cells 53 (pcC a b)] else if D 22 then [.cells 53 pcZ] else [])
theorem pcL_pw (a b:Tr):(pcL a b).Pairwise (fun x y=>x.1≠y.1∧x.2.1≠y.2.1):=by unfold pcL;simp
theorem pcX_get (a b:Tr) (B2:PBox) (D:Nat->Bool):(pcX a b B2 D)[0]?=some (.cells 34 (exC a))∧(pcX a b B2 D)[1]?=some (.cells 34 (exC b)):=⟨rfl,rfl⟩
theorem draw_pc (a b:Tr) (B2:PBox) (e:List PV) (h5:getT e 5=.bp 0 0) (h8:getT e 8=.bp 1 0) :
 ∃ e',drawAll CC (callL CC) (opsOf (fpart Try.f7 [1,1,1,1,1,1,0])) ⟨e,[.cells 34 (exC a),.cells 34 (exC b),B2]⟩=some (.normal,⟨e',[.cells 34 (exC a),.cells 34 (exC b),B2,.cells 53 (pcC a b)]⟩)∧getT e' 12=.bp 3 0∧∀ t,(∀ x ∈ pcL a b,x.2.1≠t)->getT e' t=getT e t:=by
 refine ⟨_,drawAll_states (e0:=e) (L:=pcL a b) (bxOf:=pcX a b B2) (orders_all _) (orders_ne back_pc) (fun D j op hop hD hdep hcl=>?_) (by unfold pcX pcL;simp [setsD]) (r:=⟨setsD e (fun _=>true) (pcL a b),[.cells 34 (exC a),.cells 34 (exC b),B2,.cells 53 (pcC a b)]⟩) (fun D hD=>?_),?_,fun t ht=>getT_off e _ t _ ht⟩
 · have hclz:D 23=true->D 22=true:=fun h=>hcl 23 _ rfl h ⟨22,.data⟩ (by simp [opsOf,fpart,part',Try.f7]) rfl
   have hj:j < 24:=by
    have:=(Array.getElem?_eq_some_iff.1 hop).1
    rw [size_pc] at this
    exact this
   have hpw:=pcL_pw a b
   have z5:getT (setsD e D (pcL a b)) 5=.bp 0 0:=by rw [getT_off e D 5 _ (by unfold pcL;simp)];exact h5
   have z8:getT (setsD e D (pcL a b)) 8=.bp 1 0:=by rw [getT_off e D 8 _ (by unfold pcL;simp)];exact h8
   have hget:=pcX_get a b B2 D
   have nd:=op_lawnode
   have nt:=op_lawnot
   have hf:=pcF a b
   have hB:=pcB a b
   have hlenB:D 22=false->D 23=false->(pcX a b B2 D).length=3:=fun x y=>by unfold pcX;rw [x,y];rfl
   have hz:=pcZ_zero
   by_cases e0:j=0
   · subst e0
     simp only [opsOf,fpart,part',Try.f7,Option.getD,List.getElem?_toArray,List.getElem?_cons_succ,List.getElem?_cons_zero] at hop
     injection hop with hop
     subst hop
     refine ⟨rfl,fun al=>?_⟩
     rw [<- setsD_add e D 0 64 (.agg (exC a)) hD _ (by unfold pcL;simp) hpw]
     have hb:pcX a b B2 (addD D 0)=pcX a b B2 D:=by unfold pcX;rw [addD_ne (by decide),addD_ne (by decide)]
     rw [hb]
     generalize pcX a b B2 D=Bx at *
     generalize setsD e D (pcL a b)=E at *
     obtain ⟨ev,eo,so,co,⟨hev,hco,heo,hso⟩,R⟩:=RULES0 CC
     rw [<- hso]
     simp only [S9,R,seval,ZC,nchP,List.set_cons_zero,List.set_cons_succ,SX,z5,z8,hget]
     exact ⟨_,rfl⟩
   by_cases e1:j=1
   · subst e1
     simp only [opsOf,fpart,part',Try.f7,Option.getD,List.getElem?_toArray,List.getElem?_cons_succ,List.getElem?_cons_zero] at hop
     injection hop with hop
     subst hop
     refine ⟨rfl,fun al=>?_⟩
     rw [<- setsD_add e D 1 65 (.agg (exC b)) hD _ (by unfold pcL;simp) hpw]
     have hb:pcX a b B2 (addD D 1)=pcX a b B2 D:=by unfold pcX;rw [addD_ne (by decide),addD_ne (by decide)]
     rw [hb]
     generalize pcX a b B2 D=Bx at *
     generalize setsD e D (pcL a b)=E at *
     obtain ⟨ev,eo,so,co,⟨hev,hco,heo,hso⟩,R⟩:=RULES0 CC
     rw [<- hso]
     simp only [S9,R,seval,ZC,nchP,List.set_cons_zero,List.set_cons_succ,SX,z5,z8,hget]
     exact ⟨_,rfl⟩
   by_cases e2:j=2
   · subst e2
     simp only [opsOf,fpart,part',Try.f7,Option.getD,List.getElem?_toArray,List.getElem?_cons_succ,List.getElem?_cons_zero] at hop
     injection hop with hop
     subst hop
     refine ⟨rfl,fun al=>?_⟩
     have d0:D 0=true:=hdep ⟨0,.data⟩ (by simp) rfl
     have z64:getT (setsD e D (pcL a b)) 64=.agg (exC a):=getT_on e D 0 64 _ d0 _ (by unfold pcL;simp) hpw
     have d1:D 1=true:=hdep ⟨1,.data⟩ (by simp) rfl
     have z65:getT (setsD e D (pcL a b)) 65=.agg (exC b):=getT_on e D 1 65 _ d1 _ (by unfold pcL;simp) hpw
     rw [<- setsD_add e D 2 66 (.agg (exC (nodT 10 [a,b]))) hD _ (by unfold pcL;simp) hpw]
     have hb:pcX a b B2 (addD D 2)=pcX a b B2 D:=by unfold pcX;rw [addD_ne (by decide),addD_ne (by decide)]
     rw [hb]
     generalize pcX a b B2 D=Bx at *
     generalize setsD e D (pcL a b)=E at *
     obtain ⟨ev,eo,so,co,⟨hev,hco,heo,hso⟩,R⟩:=RULES0 CC
     rw [<- hso]
     rw [<- hco] at nd
     simp only [S9,R,seval,ZC,nchP,List.set_cons_zero,List.set_cons_succ,SX,z64,z65,nd]
     exact ⟨_,rfl⟩
   by_cases e3:j=3
   · subst e3
     simp only [opsOf,fpart,part',Try.f7,Option.getD,List.getElem?_toArray,List.getElem?_cons_succ,List.getElem?_cons_zero] at hop
     injection hop with hop
     subst hop
     refine ⟨rfl,fun al=>?_⟩
     rw [<- setsD_add e D 3 67 (.agg (exC b)) hD _ (by unfold pcL;simp) hpw]
     have hb:pcX a b B2 (addD D 3)=pcX a b B2 D:=by unfold pcX;rw [addD_ne (by decide),addD_ne (by decide)]
     rw [hb]
     generalize pcX a b B2 D=Bx at *
     generalize setsD e D (pcL a b)=E at *
     obtain ⟨ev,eo,so,co,⟨hev,hco,heo,hso⟩,R⟩:=RULES0 CC
     rw [<- hso]
     simp only [S9,R,seval,ZC,nchP,List.set_cons_zero,List.set_cons_succ,SX,z5,z8,hget]
     exact ⟨_,rfl⟩
   by_cases e4:j=4
   · subst e4
     simp only [opsOf,fpart,part',Try.f7,Option.getD,List.getElem?_toArray,List.getElem?_cons_succ,List.getElem?_cons_zero] at hop
     injection hop with hop
     subst hop
     refine ⟨rfl,fun al=>?_⟩
     rw [<- setsD_add e D 4 68 (.agg (exC a)) hD _ (by unfold pcL;simp) hpw]
     have hb:pcX a b B2 (addD D 4)=pcX a b B2 D:=by unfold pcX;rw [addD_ne (by decide),addD_ne (by decide)]
     rw [hb]
     generalize pcX a b B2 D=Bx at *
     generalize setsD e D (pcL a b)=E at *
     obtain ⟨ev,eo,so,co,⟨hev,hco,heo,hso⟩,R⟩:=RULES0 CC
     rw [<- hso]
     simp only [S9,R,seval,ZC,nchP,List.set_cons_zero,List.set_cons_succ,SX,z5,z8,hget]
     exact ⟨_,rfl⟩
   by_cases e5:j=5
   · subst e5
     simp only [opsOf,fpart,part',Try.f7,Option.getD,List.getElem?_toArray,List.getElem?_cons_succ,List.getElem?_cons_zero] at hop
     injection hop with hop
     subst hop
     refine ⟨rfl,fun al=>?_⟩
     have d3:D 3=true:=hdep ⟨3,.data⟩ (by simp) rfl
     have z67:getT (setsD e D (pcL a b)) 67=.agg (exC b):=getT_on e D 3 67 _ d3 _ (by unfold pcL;simp) hpw
     have d4:D 4=true:=hdep ⟨4,.data⟩ (by simp) rfl
     have z68:getT (setsD e D (pcL a b)) 68=.agg (exC a):=getT_on e D 4 68 _ d4 _ (by unfold pcL;simp) hpw
     rw [<- setsD_add e D 5 69 (.agg (exC (nodT 10 [b,a]))) hD _ (by unfold pcL;simp) hpw]
     have hb:pcX a b B2 (addD D 5)=pcX a b B2 D:=by unfold pcX;rw [addD_ne (by decide),addD_ne (by decide)]
     rw [hb]
     generalize pcX a b B2 D=Bx at *
     generalize setsD e D (pcL a b)=E at *
     obtain ⟨ev,eo,so,co,⟨hev,hco,heo,hso⟩,R⟩:=RULES0 CC
     rw [<- hso]
     rw [<- hco] at nd
     simp only [S9,R,seval,ZC,nchP,List.set_cons_zero,List.set_cons_succ,SX,z67,z68,nd]
     exact ⟨_,rfl⟩
   by_cases e6:j=6
   · subst e6
     simp only [opsOf,fpart,part',Try.f7,Option.getD,List.getElem?_toArray,List.getElem?_cons_succ,List.getElem?_cons_zero] at hop
     injection hop with hop
     subst hop
     refine ⟨rfl,fun al=>?_⟩
     rw [<- setsD_add e D 6 70 (.agg (exC a)) hD _ (by unfold pcL;simp) hpw]
     have hb:pcX a b B2 (addD D 6)=pcX a b B2 D:=by unfold pcX;rw [addD_ne (by decide),addD_ne (by decide)]
     rw [hb]
     generalize pcX a b B2 D=Bx at *
     generalize setsD e D (pcL a b)=E at *
     obtain ⟨ev,eo,so,co,⟨hev,hco,heo,hso⟩,R⟩:=RULES0 CC
     rw [<- hso]
     simp only [S9,R,seval,ZC,nchP,List.set_cons_zero,List.set_cons_succ,SX,z5,z8,hget]
     exact ⟨_,rfl⟩
   by_cases e7:j=7
   · subst e7
     simp only [opsOf,fpart,part',Try.f7,Option.getD,List.getElem?_toArray,List.getElem?_cons_succ,List.getElem?_cons_zero] at hop
     injection hop with hop
     subst hop
     refine ⟨rfl,fun al=>?_⟩
     rw [<- setsD_add e D 7 71 (.agg (exC b)) hD _ (by unfold pcL;simp) hpw]
     have hb:pcX a b B2 (addD D 7)=pcX a b B2 D:=by unfold pcX;rw [addD_ne (by decide),addD_ne (by decide)]
     rw [hb]
     generalize pcX a b B2 D=Bx at *
     generalize setsD e D (pcL a b)=E at *
     obtain ⟨ev,eo,so,co,⟨hev,hco,heo,hso⟩,R⟩:=RULES0 CC
     rw [<- hso]
     simp only [S9,R,seval,ZC,nchP,List.set_cons_zero,List.set_cons_succ,SX,z5,z8,hget]
     exact ⟨_,rfl⟩
   by_cases e8:j=8
   · subst e8
     simp only [opsOf,fpart,part',Try.f7,Option.getD,List.getElem?_toArray,List.getElem?_cons_succ,List.getElem?_cons_zero] at hop
     injection hop with hop
     subst hop
     refine ⟨rfl,fun al=>?_⟩
     have d6:D 6=true:=hdep ⟨6,.data⟩ (by simp) rfl
     have z70:getT (setsD e D (pcL a b)) 70=.agg (exC a):=getT_on e D 6 70 _ d6 _ (by unfold pcL;simp) hpw
     have d7:D 7=true:=hdep ⟨7,.data⟩ (by simp) rfl
     have z71:getT (setsD e D (pcL a b)) 71=.agg (exC b):=getT_on e D 7 71 _ d7 _ (by unfold pcL;simp) hpw
     rw [<- setsD_add e D 8 72 (.agg (exC (nodT 10 [a,b]))) hD _ (by unfold pcL;simp) hpw]
     have hb:pcX a b B2 (addD D 8)=pcX a b B2 D:=by unfold pcX;rw [addD_ne (by decide),addD_ne (by decide)]
     rw [hb]
     generalize pcX a b B2 D=Bx at *
     generalize setsD e D (pcL a b)=E at *
     obtain ⟨ev,eo,so,co,⟨hev,hco,heo,hso⟩,R⟩:=RULES0 CC
     rw [<- hso]
     rw [<- hco] at nd
     simp only [S9,R,seval,ZC,nchP,List.set_cons_zero,List.set_cons_succ,SX,z70,z71,nd]
     exact ⟨_,rfl⟩
   by_cases e9:j=9
   · subst e9
     simp only [opsOf,fpart,part',Try.f7,Option.getD,List.getElem?_toArray,List.getElem?_cons_succ,List.getElem?_cons_zero] at hop
     injection hop with hop
     subst hop
     refine ⟨rfl,fun al=>?_⟩
     have d8:D 8=true:=hdep ⟨8,.data⟩ (by simp) rfl
     have z72:getT (setsD e D (pcL a b)) 72=.agg (exC (nodT 10 [a,b])):=getT_on e D 8 72 _ d8 _ (by unfold pcL;simp) hpw
     rw [<- setsD_add e D 9 73 (.agg (exC (nodT 6 [nodT 10 [a,b]]))) hD _ (by unfold pcL;simp) hpw]
     have hb:pcX a b B2 (addD D 9)=pcX a b B2 D:=by unfold pcX;rw [addD_ne (by decide),addD_ne (by decide)]
     rw [hb]
     generalize pcX a b B2 D=Bx at *
     generalize setsD e D (pcL a b)=E at *
     obtain ⟨ev,eo,so,co,⟨hev,hco,heo,hso⟩,R⟩:=RULES0 CC
     rw [<- hso]
     rw [<- hco] at nt
     simp only [S9,R,seval,ZC,nchP,List.set_cons_zero,List.set_cons_succ,SX,z72,nt]
     exact ⟨_,rfl⟩
   by_cases e10:j=10
   · subst e10
     simp only [opsOf,fpart,part',Try.f7,Option.getD,List.getElem?_toArray,List.getElem?_cons_succ,List.getElem?_cons_zero] at hop
     injection hop with hop
     subst hop
     refine ⟨rfl,fun al=>?_⟩
     rw [<- setsD_add e D 10 74 (.agg (exC b)) hD _ (by unfold pcL;simp) hpw]
     have hb:pcX a b B2 (addD D 10)=pcX a b B2 D:=by unfold pcX;rw [addD_ne (by decide),addD_ne (by decide)]
     rw [hb]
     generalize pcX a b B2 D=Bx at *
     generalize setsD e D (pcL a b)=E at *
     obtain ⟨ev,eo,so,co,⟨hev,hco,heo,hso⟩,R⟩:=RULES0 CC
     rw [<- hso]
     simp only [S9,R,seval,ZC,nchP,List.set_cons_zero,List.set_cons_succ,SX,z5,z8,hget]
     exact ⟨_,rfl⟩
   by_cases e11:j=11
   · subst e11
     simp only [opsOf,fpart,part',Try.f7,Option.getD,List.getElem?_toArray,List.getElem?_cons_succ,List.getElem?_cons_zero] at hop
     injection hop with hop
     subst hop
     refine ⟨rfl,fun al=>?_⟩
     rw [<- setsD_add e D 11 75 (.agg (exC a)) hD _ (by unfold pcL;simp) hpw]
     have hb:pcX a b B2 (addD D 11)=pcX a b B2 D:=by unfold pcX;rw [addD_ne (by decide),addD_ne (by decide)]
     rw [hb]
     generalize pcX a b B2 D=Bx at *
     generalize setsD e D (pcL a b)=E at *
     obtain ⟨ev,eo,so,co,⟨hev,hco,heo,hso⟩,R⟩:=RULES0 CC
     rw [<- hso]
     simp only [S9,R,seval,ZC,nchP,List.set_cons_zero,List.set_cons_succ,SX,z5,z8,hget]
     exact ⟨_,rfl⟩
   by_cases e12:j=12
   · subst e12
     simp only [opsOf,fpart,part',Try.f7,Option.getD,List.getElem?_toArray,List.getElem?_cons_succ,List.getElem?_cons_zero] at hop
     injection hop with hop
     subst hop
     refine ⟨rfl,fun al=>?_⟩
     have d10:D 10=true:=hdep ⟨10,.data⟩ (by simp) rfl
     have z74:getT (setsD e D (pcL a b)) 74=.agg (exC b):=getT_on e D 10 74 _ d10 _ (by unfold pcL;simp) hpw
     have d11:D 11=true:=hdep ⟨11,.data⟩ (by simp) rfl
     have z75:getT (setsD e D (pcL a b)) 75=.agg (exC a):=getT_on e D 11 75 _ d11 _ (by unfold pcL;simp) hpw
     rw [<- setsD_add e D 12 76 (.agg (exC (nodT 10 [b,a]))) hD _ (by unfold pcL;simp) hpw]
     have hb:pcX a b B2 (addD D 12)=pcX a b B2 D:=by unfold pcX;rw [addD_ne (by decide),addD_ne (by decide)]
     rw [hb]
     generalize pcX a b B2 D=Bx at *
     generalize setsD e D (pcL a b)=E at *
     obtain ⟨ev,eo,so,co,⟨hev,hco,heo,hso⟩,R⟩:=RULES0 CC
     rw [<- hso]
     rw [<- hco] at nd
     simp only [S9,R,seval,ZC,nchP,List.set_cons_zero,List.set_cons_succ,SX,z74,z75,nd]
     exact ⟨_,rfl⟩
   by_cases e13:j=13
   · subst e13
     simp only [opsOf,fpart,part',Try.f7,Option.getD,List.getElem?_toArray,List.getElem?_cons_succ,List.getElem?_cons_zero] at hop
     injection hop with hop
     subst hop
     refine ⟨rfl,fun al=>?_⟩
     have d12:D 12=true:=hdep ⟨12,.data⟩ (by simp) rfl
     have z76:getT (setsD e D (pcL a b)) 76=.agg (exC (nodT 10 [b,a])):=getT_on e D 12 76 _ d12 _ (by unfold pcL;simp) hpw
     rw [<- setsD_add e D 13 77 (.agg (exC (nodT 6 [nodT 10 [b,a]]))) hD _ (by unfold pcL;simp) hpw]
     have hb:pcX a b B2 (addD D 13)=pcX a b B2 D:=by unfold pcX;rw [addD_ne (by decide),addD_ne (by decide)]
     rw [hb]
     generalize pcX a b B2 D=Bx at *
     generalize setsD e D (pcL a b)=E at *
     obtain ⟨ev,eo,so,co,⟨hev,hco,heo,hso⟩,R⟩:=RULES0 CC
     rw [<- hso]
     rw [<- hco] at nt
     simp only [S9,R,seval,ZC,nchP,List.set_cons_zero,List.set_cons_succ,SX,z76,nt]
     exact ⟨_,rfl⟩
   by_cases e14:j=14
   · subst e14
     simp only [opsOf,fpart,part',Try.f7,Option.getD,List.getElem?_toArray,List.getElem?_cons_succ,List.getElem?_cons_zero] at hop
     injection hop with hop
     subst hop
     refine ⟨rfl,fun al=>?_⟩
     rw [<- setsD_add e D 14 78 (.agg (exC a)) hD _ (by unfold pcL;simp) hpw]
     have hb:pcX a b B2 (addD D 14)=pcX a b B2 D:=by unfold pcX;rw [addD_ne (by decide),addD_ne (by decide)]
     rw [hb]
     generalize pcX a b B2 D=Bx at *
     generalize setsD e D (pcL a b)=E at *
     obtain ⟨ev,eo,so,co,⟨hev,hco,heo,hso⟩,R⟩:=RULES0 CC
     rw [<- hso]
     simp only [S9,R,seval,ZC,nchP,List.set_cons_zero,List.set_cons_succ,SX,z5,z8,hget]
     exact ⟨_,rfl⟩
   by_cases e15:j=15
   · subst e15
     simp only [opsOf,fpart,part',Try.f7,Option.getD,List.getElem?_toArray,List.getElem?_cons_succ,List.getElem?_cons_zero] at hop
     injection hop with hop
     subst hop
     refine ⟨rfl,fun al=>?_⟩
     rw [<- setsD_add e D 15 79 (.agg (exC b)) hD _ (by unfold pcL;simp) hpw]
     have hb:pcX a b B2 (addD D 15)=pcX a b B2 D:=by unfold pcX;rw [addD_ne (by decide),addD_ne (by decide)]
     rw [hb]
     generalize pcX a b B2 D=Bx at *
     generalize setsD e D (pcL a b)=E at *
     obtain ⟨ev,eo,so,co,⟨hev,hco,heo,hso⟩,R⟩:=RULES0 CC
     rw [<- hso]
     simp only [S9,R,seval,ZC,nchP,List.set_cons_zero,List.set_cons_succ,SX,z5,z8,hget]
     exact ⟨_,rfl⟩
   by_cases e16:j=16
   · subst e16
     simp only [opsOf,fpart,part',Try.f7,Option.getD,List.getElem?_toArray,List.getElem?_cons_succ,List.getElem?_cons_zero] at hop
     injection hop with hop
     subst hop
     refine ⟨rfl,fun al=>?_⟩
     have d14:D 14=true:=hdep ⟨14,.data⟩ (by simp) rfl
     have z78:getT (setsD e D (pcL a b)) 78=.agg (exC a):=getT_on e D 14 78 _ d14 _ (by unfold pcL;simp) hpw
     have d15:D 15=true:=hdep ⟨15,.data⟩ (by simp) rfl
     have z79:getT (setsD e D (pcL a b)) 79=.agg (exC b):=getT_on e D 15 79 _ d15 _ (by unfold pcL;simp) hpw
     rw [<- setsD_add e D 16 80 (.agg (exC (nodT 9 [a,b]))) hD _ (by unfold pcL;simp) hpw]
     have hb:pcX a b B2 (addD D 16)=pcX a b B2 D:=by unfold pcX;rw [addD_ne (by decide),addD_ne (by decide)]
     rw [hb]
     generalize pcX a b B2 D=Bx at *
     generalize setsD e D (pcL a b)=E at *
     obtain ⟨ev,eo,so,co,⟨hev,hco,heo,hso⟩,R⟩:=RULES0 CC
     rw [<- hso]
     rw [<- hco] at nd
     simp only [S9,R,seval,ZC,nchP,List.set_cons_zero,List.set_cons_succ,SX,z78,z79,nd]
     exact ⟨_,rfl⟩
   by_cases e17:j=17
   · subst e17
     simp only [opsOf,fpart,part',Try.f7,Option.getD,List.getElem?_toArray,List.getElem?_cons_succ,List.getElem?_cons_zero] at hop
     injection hop with hop
     subst hop
     refine ⟨rfl,fun al=>?_⟩
     rw [<- setsD_add e D 17 81 (.agg (exC a)) hD _ (by unfold pcL;simp) hpw]
     have hb:pcX a b B2 (addD D 17)=pcX a b B2 D:=by unfold pcX;rw [addD_ne (by decide),addD_ne (by decide)]
     rw [hb]
     generalize pcX a b B2 D=Bx at *
     generalize setsD e D (pcL a b)=E at *
     obtain ⟨ev,eo,so,co,⟨hev,hco,heo,hso⟩,R⟩:=RULES0 CC
     rw [<- hso]
     simp only [S9,R,seval,ZC,nchP,List.set_cons_zero,List.set_cons_succ,SX,z5,z8,hget]
     exact ⟨_,rfl⟩
   by_cases e18:j=18
   · subst e18
     simp only [opsOf,fpart,part',Try.f7,Option.getD,List.getElem?_toArray,List.getElem?_cons_succ,List.getElem?_cons_zero] at hop
     injection hop with hop
     subst hop
     refine ⟨rfl,fun al=>?_⟩
     rw [<- setsD_add e D 18 82 (.agg (exC b)) hD _ (by unfold pcL;simp) hpw]
     have hb:pcX a b B2 (addD D 18)=pcX a b B2 D:=by unfold pcX;rw [addD_ne (by decide),addD_ne (by decide)]
     rw [hb]
     generalize pcX a b B2 D=Bx at *
     generalize setsD e D (pcL a b)=E at *
     obtain ⟨ev,eo,so,co,⟨hev,hco,heo,hso⟩,R⟩:=RULES0 CC
     rw [<- hso]
     simp only [S9,R,seval,ZC,nchP,List.set_cons_zero,List.set_cons_succ,SX,z5,z8,hget]
     exact ⟨_,rfl⟩
   by_cases e19:j=19
   · subst e19
     simp only [opsOf,fpart,part',Try.f7,Option.getD,List.getElem?_toArray,List.getElem?_cons_succ,List.getElem?_cons_zero] at hop
     injection hop with hop
     subst hop
     refine ⟨rfl,fun al=>?_⟩
     have d17:D 17=true:=hdep ⟨17,.data⟩ (by simp) rfl
     have z81:getT (setsD e D (pcL a b)) 81=.agg (exC a):=getT_on e D 17 81 _ d17 _ (by unfold pcL;simp) hpw
     have d18:D 18=true:=hdep ⟨18,.data⟩ (by simp) rfl
     have z82:getT (setsD e D (pcL a b)) 82=.agg (exC b):=getT_on e D 18 82 _ d18 _ (by unfold pcL;simp) hpw
     rw [<- setsD_add e D 19 83 (.agg (exC (nodT 9 [a,b]))) hD _ (by unfold pcL;simp) hpw]
     have hb:pcX a b B2 (addD D 19)=pcX a b B2 D:=by unfold pcX;rw [addD_ne (by decide),addD_ne (by decide)]
     rw [hb]
     generalize pcX a b B2 D=Bx at *
     generalize setsD e D (pcL a b)=E at *
     obtain ⟨ev,eo,so,co,⟨hev,hco,heo,hso⟩,R⟩:=RULES0 CC
     rw [<- hso]
     rw [<- hco] at nd
     simp only [S9,R,seval,ZC,nchP,List.set_cons_zero,List.set_cons_succ,SX,z81,z82,nd]
     exact ⟨_,rfl⟩
   by_cases e20:j=20
   · subst e20
     simp only [opsOf,fpart,part',Try.f7,Option.getD,List.getElem?_toArray,List.getElem?_cons_succ,List.getElem?_cons_zero] at hop
     injection hop with hop
     subst hop
     refine ⟨rfl,fun al=>?_⟩
     have d19:D 19=true:=hdep ⟨19,.data⟩ (by simp) rfl
     have z83:getT (setsD e D (pcL a b)) 83=.agg (exC (nodT 9 [a,b])):=getT_on e D 19 83 _ d19 _ (by unfold pcL;simp) hpw
     rw [<- setsD_add e D 20 84 (.agg (exC (nodT 6 [nodT 9 [a,b]]))) hD _ (by unfold pcL;simp) hpw]
     have hb:pcX a b B2 (addD D 20)=pcX a b B2 D:=by unfold pcX;rw [addD_ne (by decide),addD_ne (by decide)]
     rw [hb]
     generalize pcX a b B2 D=Bx at *
     generalize setsD e D (pcL a b)=E at *
     obtain ⟨ev,eo,so,co,⟨hev,hco,heo,hso⟩,R⟩:=RULES0 CC
     rw [<- hso]
     rw [<- hco] at nt
     simp only [S9,R,seval,ZC,nchP,List.set_cons_zero,List.set_cons_succ,SX,z83,nt]
     exact ⟨_,rfl⟩
   by_cases e21:j=21
   · subst e21
     simp only [opsOf,fpart,part',Try.f7,Option.getD,List.getElem?_toArray,List.getElem?_cons_succ,List.getElem?_cons_zero] at hop
     injection hop with hop
     subst hop
     refine ⟨rfl,fun al=>?_⟩
     have d2:D 2=true:=hdep ⟨2,.data⟩ (by simp) rfl
     have z66:getT (setsD e D (pcL a b)) 66=.agg (exC (nodT 10 [a,b])):=getT_on e D 2 66 _ d2 _ (by unfold pcL;simp) hpw
     have d5:D 5=true:=hdep ⟨5,.data⟩ (by simp) rfl
     have z69:getT (setsD e D (pcL a b)) 69=.agg (exC (nodT 10 [b,a])):=getT_on e D 5 69 _ d5 _ (by unfold pcL;simp) hpw
     have d9:D 9=true:=hdep ⟨9,.data⟩ (by simp) rfl
     have z73:getT (setsD e D (pcL a b)) 73=.agg (exC (nodT 6 [nodT 10 [a,b]])):=getT_on e D 9 73 _ d9 _ (by unfold pcL;simp) hpw
     have d13:D 13=true:=hdep ⟨13,.data⟩ (by simp) rfl
     have z77:getT (setsD e D (pcL a b)) 77=.agg (exC (nodT 6 [nodT 10 [b,a]])):=getT_on e D 13 77 _ d13 _ (by unfold pcL;simp) hpw
     have d16:D 16=true:=hdep ⟨16,.data⟩ (by simp) rfl
     have z80:getT (setsD e D (pcL a b)) 80=.agg (exC (nodT 9 [a,b])):=getT_on e D 16 80 _ d16 _ (by unfold pcL;simp) hpw
     have d20:D 20=true:=hdep ⟨20,.data⟩ (by simp) rfl
     have z84:getT (setsD e D (pcL a b)) 84=.agg (exC (nodT 6 [nodT 9 [a,b]])):=getT_on e D 20 84 _ d20 _ (by unfold pcL;simp) hpw
     rw [<- setsD_add e D 21 85 (.agg (pcC a b)) hD _ (by unfold pcL;simp) hpw]
     have hb:pcX a b B2 (addD D 21)=pcX a b B2 D:=by unfold pcX;rw [addD_ne (by decide),addD_ne (by decide)]
     rw [hb]
     generalize pcX a b B2 D=Bx at *
     generalize setsD e D (pcL a b)=E at *
     obtain ⟨ev,eo,so,co,⟨hev,hco,heo,hso⟩,R⟩:=RULES0 CC
     rw [<- hso]
     simp only [S9,R,seval,ZC,nchP,List.set_cons_zero,List.set_cons_succ,SX,z66,z69,z73,z77,z80,z84,hB]
     exact ⟨_,rfl⟩
   by_cases e22:j=22
   · subst e22
     simp only [opsOf,fpart,part',Try.f7,Option.getD,List.getElem?_toArray,List.getElem?_cons_succ,List.getElem?_cons_zero] at hop
     injection hop with hop
     subst hop
     refine ⟨rfl,fun al=>?_⟩
     rw [<- setsD_add e D 22 12 (.bp 3 0) hD _ (by unfold pcL;simp) hpw]
     have dz:D 23=false:=by
      cases hq:D 23 with
      | false=>rfl
      | true=>exact absurd (hclz hq) (by rw [hD];decide)
     have hl:=hlenB hD dz
     have hb:pcX a b B2 (addD D 22)=pcX a b B2 D++[.cells 53 pcZ]:=by unfold pcX;rw [addD_ne (by decide),addD_self,dz,hD];rfl
     rw [hb]
     generalize pcX a b B2 D=Bx at *
     generalize setsD e D (pcL a b)=E at *
     obtain ⟨ev,eo,so,co,⟨hev,hco,heo,hso⟩,R⟩:=RULES0 CC
     rw [<- hso]
     simp only [S9,R,seval,ZC,nchP,List.set_cons_zero,List.set_cons_succ,SX,hl,hz]
     exact ⟨_,rfl⟩
   by_cases e23:j=23
   · subst e23
     simp only [opsOf,fpart,part',Try.f7,Option.getD,List.getElem?_toArray,List.getElem?_cons_succ,List.getElem?_cons_zero] at hop
     injection hop with hop
     subst hop
     refine ⟨rfl,fun al=>?_⟩
     have d22:D 22=true:=hdep ⟨22,.data⟩ (by simp) rfl
     have z12:getT (setsD e D (pcL a b)) 12=.bp 3 0:=getT_on e D 22 12 _ d22 _ (by unfold pcL;simp) hpw
     have d21:D 21=true:=hdep ⟨21,.data⟩ (by simp) rfl
     have z85:getT (setsD e D (pcL a b)) 85=.agg (pcC a b):=getT_on e D 21 85 _ d21 _ (by unfold pcL;simp) hpw
     rw [setsD_skip e D 23 _ (by unfold pcL;simp)]
     have hb:pcX a b B2 (addD D 23)=[.cells 34 (exC a),.cells 34 (exC b),B2,.cells 53 (pcC a b)]:=by unfold pcX;rw [addD_self];rfl
     have hb0:pcX a b B2 D=[.cells 34 (exC a),.cells 34 (exC b),B2,.cells 53 pcZ]:=by unfold pcX;rw [hD,d22];rfl
     rw [hb,hb0]
     generalize setsD e D (pcL a b)=E at *
     obtain ⟨ev,eo,so,co,⟨hev,hco,heo,hso⟩,R⟩:=RULES0 CC
     rw [<- hso]
     simp only [S9,R,seval,ZC,nchP,List.set_cons_zero,List.set_cons_succ,SX,z12,z85,hf]
     exact ⟨_,rfl⟩
   omega
 · have hsz:=size_pc
   have hd:∀ j,j < 24->D j=true:=fun j hj=>hD j (by rw [hsz];exact hj)
   unfold pcL pcX
   simp only [setsD,hd 0 (by decide),hd 1 (by decide),hd 2 (by decide),hd 3 (by decide),hd 4 (by decide),hd 5 (by decide),hd 6 (by decide),hd 7 (by decide),hd 8 (by decide),hd 9 (by decide),hd 10 (by decide),hd 11 (by decide),hd 12 (by decide),hd 13 (by decide),hd 14 (by decide),hd 15 (by decide),hd 16 (by decide),hd 17 (by decide),hd 18 (by decide),hd 19 (by decide),hd 20 (by decide),hd 21 (by decide),hd 22 (by decide),hd 23 (by decide),if_true]
   rfl
 · exact getT_on e _ 22 12 _ rfl _ (by unfold pcL;simp) (pcL_pw a b)
end Go.HH
namespace Go.HH
open Go Go.Proofs
set_option maxRecDepth 100000
set_option maxHeartbeats 4000000
set_option linter.unusedSimpArgs false
set_option linter.unusedVariables false
theorem draw_ok_p1:drawOK CC (opsOf (fpart Try.f7 [1,1,1,1,0,0]))=true:=by kernel_rfl
theorem draw_ok_p2:drawOK CC (opsOf (fpart Try.f7 [1,1,1,1,1,1,1,0,1,0,0,1,0,0,1,0]))=true:=by kernel_rfl
def pcO:List (List UInt8):=[[60],[62],[62,61],[60,61],[61,61],[33,61]]
def pcK:List Nat:=[2,4,3,5,0,1]
def pcS:List PV:=pcO.map .str
theorem pcS_build:buildP CC 50 [(0,.str [60]),(1,.str [62]),(2,.str [62,61]),(3,.str [60,61]),(4,.str [61,61]),(5,.str [33,61])]=some (.agg pcS):=by kernel_rfl
theorem pcS_zero:zeroCells CC 50=some [.str [],.str [],.str [],.str [],.str [],.str []]:=by kernel_rfl
theorem pcS_f:pcS.length=6∧pcS.take 6=pcS∧pcS.drop 6=[]∧pcS.map PV.ro=pcS∧pcS.map PV.seal1=pcS∧pcS.all PV.one=true:=⟨rfl,rfl,rfl,rfl,rfl,rfl⟩
theorem pcA_s:CC.P.underlying 50=some (.array 6 9)∧tSize CC 9=some 1:=⟨by kernel_rfl,by kernel_rfl⟩
theorem pcA_e:CC.P.underlying 53=some (.array 6 34)∧tSize CC 34=some 11:=⟨by kernel_rfl,by kernel_rfl⟩
theorem pc_at (a b:Tr):∀ i,i < 6->cmpWs[pcK.getD i 0]?=some (pcO.getD i [])∧cmpT (pcK.getD i 0) a b=(pcW a b).getD i zT∧pcS[i]?=some (.str (pcO.getD i []))∧(pcS.drop i).head?=some (.str (pcO.getD i []))∧((pcC a b).drop (i * 11)).take 11=exC ((pcW a b).getD i zT)∧11<=((pcC a b).drop (i * 11)).length
 | 0,_=>⟨rfl,rfl,rfl,rfl,by unfold pcC pcW;simp only [exC_nod,List.getD_cons_zero,List.getD_cons_succ];rfl,by rw [List.length_drop,pcC_len];decide⟩
 | 1,_=>⟨rfl,rfl,rfl,rfl,by unfold pcC pcW;simp only [exC_nod,List.getD_cons_zero,List.getD_cons_succ];rfl,by rw [List.length_drop,pcC_len];decide⟩
 | 2,_=>⟨rfl,rfl,rfl,rfl,by unfold pcC pcW;simp only [exC_nod,List.getD_cons_zero,List.getD_cons_succ];rfl,by rw [List.length_drop,pcC_len];decide⟩
 | 3,_=>⟨rfl,rfl,rfl,rfl,by unfold pcC pcW;simp only [exC_nod,List.getD_cons_zero,List.getD_cons_succ];rfl,by rw [List.length_drop,pcC_len];decide⟩
 | 4,_=>⟨rfl,rfl,rfl,rfl,by unfold pcC pcW;simp only [exC_nod,List.getD_cons_zero,List.getD_cons_succ];rfl,by rw [List.length_drop,pcC_len];decide⟩
 | 5,_=>⟨rfl,rfl,rfl,rfl,by unfold pcC pcW;simp only [exC_nod,List.getD_cons_zero,List.getD_cons_succ];rfl,by rw [List.length_drop,pcC_len];decide⟩
 | i+6,h=>by omega
theorem strAdd {x y z:List UInt8} (h:x.length+y.length<=100000) (hz:x++y=z):strP .add x y=some (.str z):=by
 subst hz
 unfold strP
 rw [if_pos (by unfold maxStr;omega)]
theorem pc_round {s t:List UInt8} (hs:s.length<=100) (ht:t.length<=100) (h:(exprA s).2.2=0) (h':(exprA t).2.2=0) (hz:szT (exprA s).1+szT (exprA t).1<=100) (da:dpT (exprA s).1<=20) (db:dpT (exprA t).1<=20) (i:Nat) (hi:i < 6) :
 ∃ u1 u2 u3 u4 u5 u6,strP .add [40] s=some (.str u1)∧strP .add u1 [10,41]=some (.str u2)∧strP .add u2 (pcO.getD i [])=some (.str u3)∧strP .add u3 [40]=some (.str u4)∧strP .add u4 t=some (.str u5)∧strP .add u5 [10,41]=some (.str u6) ∧
  ∀ bx,callOp CC (callL CC) 14 [.str u6] bx=some (.ret (.tup [.agg (exC ((pcW (exprA s).1 (exprA t).1).getD i zT)),.int .i64 0,.int .i64 0]),bx):=by
 obtain ⟨k1,k2,_⟩:=pc_at (exprA s).1 (exprA t).1 i hi
 have hl:=compares_law hs ht h h' hz da db k1
 rw [k2] at hl
 have hol:(pcO.getD i []).length<=2:=by
  match i,hi with
  | 0,_=>decide
  | 1,_=>decide
  | 2,_=>decide
  | 3,_=>decide
  | 4,_=>decide
  | 5,_=>decide
  | i+6,h=>omega
 generalize pcO.getD i []=op at *
 refine ⟨[40]++s,[40]++s++[10,41],[40]++s++[10,41]++op,[40]++s++[10,41]++op++[40],[40]++s++[10,41]++op++[40]++t,[40]++s++[10,41]++op++[40]++t++[10,41],strAdd (by simp;omega) rfl,strAdd (by simp;omega) rfl,strAdd (by simp;omega) rfl,strAdd (by simp;omega) rfl,strAdd (by simp;omega) rfl,strAdd (by simp;omega) rfl,fun bx=>?_⟩
 have e:[40]++s++[10,41]++op++[40]++t++[10,41]=40 :: joinL s (41 :: (op++40 :: joinL t [41])):=by unfold joinL;simp
 rw [e]
 have:=exE (40 :: joinL s (41 :: (op++40 :: joinL t [41]))) (by simp [joinL_length];omega) bx
 rw [hl] at this
 exact this
def PCo (z:Option (Ex×St)):Prop:=∃ e' bx',z=some (.exit 0,⟨e',bx'⟩)
theorem loop_PC (Lc:Code) (hL:Lc=fpart Try.f7 [1,1,1,1,1,1,1,0,1,0]) {s t:List UInt8} (hs:s.length<=100) (ht:t.length<=100) (h:(exprA s).2.2=0) (h':(exprA t).2.2=0) (hz:szT (exprA s).1+szT (exprA t).1<=100) (da:dpT (exprA s).1<=20) (db:dpT (exprA t).1<=20) (hsa:shT (exprA s).1) (hsb:shT (exprA t).1):∀ (m i:Nat) (e:List PV) (bx:List PBox),i+m=6->bx[2]?=some (.cells 50 pcS)->bx[3]?=some (.cells 53 (pcC (exprA s).1 (exprA t).1))->getT e 0=.str s->getT e 1=.str t->getT e 11=.bp 2 0->getT e 12=.bp 3 0->getT e 13=.int .i64 (i:Int)->PCo (evB CC Lc ⟨e,bx⟩):=by
 intro m
 induction m with
 | zero=>
  intro i e bx hi g2 g3 e0 e1 e11 e12 e13
  rw [evB_at (fpart Try.f7 [1,1,1,1,1,1,1,0,1,0,0]) hL]
  have hc:¬ ((i:Int) < 6):=by omega
  obtain ⟨dr,ev,eo,so,co,⟨hev,hco,heo,hdr⟩,R⟩:=RULESB CC
  rw [<- hev]
  simp only [fpart,part',Try.f7,Option.getD]
  simp only [S9,R,seval,ZC,nchP,List.set_cons_zero,List.set_cons_succ,e0,e1,e11,e12,e13,hc]
  exact ⟨_,_,rfl⟩
 | succ m ih=>
  intro i e bx hi g2 g3 e0 e1 e11 e12 e13
  rw [evB_at (fpart Try.f7 [1,1,1,1,1,1,1,0,1,0,0]) hL]
  have hc:((i:Int) < 6):=by omega
  have hc0:¬ ((i:Int) < 0):=by omega
  have h6:i < 6:=by omega
  obtain ⟨k1,k2,k3,k4,k5,k6⟩:=pc_at (exprA s).1 (exprA t).1 i h6
  obtain ⟨u1,u2,u3,u4,u5,u6,f1,f2,f3,f4,f5,f6,x1⟩:=pc_round hs ht h h' hz da db i h6
  have hshW:shT ((pcW (exprA s).1 (exprA t).1).getD i zT):=by
   rw [<- k2]
   exact sh_cmp _ hsa hsb
  have sm:=smE _ hshW
  have hw1:=wrap_i64 (n:=(i:Int)+1) ⟨by omega,by omega⟩
  have h2l:3 < bx.length:=(List.getElem?_eq_some_iff.1 g3).1
  have key:=fun e y=>ih (i+1) e (bx++[y]) (by omega) (by rw [List.getElem?_append_left (by omega)];exact g2) (by rw [List.getElem?_append_left (by omega)];exact g3)
  have cast1:((i+1:Nat):Int)=(i:Int)+1:=by omega
  rw [cast1] at key
  have b1:∀ y:PBox,(bx++[y])[bx.length]?=some y:=fun y=>by rw [List.getElem?_append_right (Nat.le_refl _),Nat.sub_self];rfl
  have b2:∀ y z:PBox,(bx++[y]).set bx.length z=bx++[z]:=fun y z=>by rw [List.set_append_right _ _ (Nat.le_refl _),Nat.sub_self];rfl
  have b3:∀ y:PBox,(bx++[y])[3]?=some (.cells 53 (pcC (exprA s).1 (exprA t).1)):=fun y=>by rw [List.getElem?_append_left (by omega)];exact g3
  have hA:=pcA_s
  have hB:=pcA_e
  have hcl:=pcC_len (exprA s).1 (exprA t).1
  have hsl:=pcS_f.1
  have hd2:=fun st=>drawM_calm (call:=callL CC) (st:=st) draw_ok_p2
  have q1:i * 11+11<=66:=by omega
  have q2:i+1<=6:=by omega
  clear hshW k1 k2 ih
  generalize (pcW (exprA s).1 (exprA t).1).getD i zT=wi at *
  generalize pcC (exprA s).1 (exprA t).1=pc at *
  generalize pcO.getD i []=op at *
  generalize pcS=ps at *
  obtain ⟨dr,ev,eo,so,co,⟨hev,hco,heo,hdr⟩,R⟩:=RULESB CC
  rw [<- hev] at key ⊢
  rw [<- hco] at x1 sm
  rw [<- hdr,<- heo] at hd2
  simp only [opsOf,fpart,part',Try.f7,Option.getD] at hd2 ⊢
  simp only [S9,R,seval,ZC,nchP,List.set_cons_zero,List.set_cons_succ,SX,hd2,e0,e1,e11,e12,e13,hc,hc0,Nat.mul_one,g2,g3,f1,f2,f3,f4,f5,f6,x1,sm,hw1,b1,b2,b3,hA,hB,hcl,hsl,k3,k4,k5,k6,q1,q2,PV.ro,PV.pure,pureL]
  refine key _ _ ?_ ?_ ?_ ?_ ?_
  all_goals first | (simp only [S7,R,seval,e0,e1,e11,e12,e13];done) | (simp only [S7,R,seval,e0,e1,e11,e12,e13] <;> rfl)
end Go.HH
