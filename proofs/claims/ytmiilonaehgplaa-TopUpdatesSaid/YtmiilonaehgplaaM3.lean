/-
  What the law needs, packed: Lim.
-/
import Derived.Test.YtmiilonaehgplaaM2
namespace Go.HH
open Go
def CallLe (c c':CallT):Prop:=∀ f args bx r,c f args bx=some r->c' f args bx=some r
variable {C:Cfg}
theorem callOp_le {c c':CallT} (h:CallLe c c') {f:FuncId} {args:List PV} {bx:List PBox} {r:CR×List PBox} (e:callOp C c f args bx=some r):callOp C c' f args bx=some r:=by
 unfold callOp at e ⊢
 split
 · rename_i hc
   rw [if_pos hc] at e
   cases hx:c f args bx with
   | none=>rw [hx] at e;cases e
   | some x=>rw [hx] at e;rw [h _ _ _ _ hx];exact e
 · rename_i hc
   rw [if_neg hc] at e
   cases hx:c f args [] with
   | none=>rw [hx] at e;cases e
   | some x=>rw [hx] at e;rw [h _ _ _ _ hx];exact e
theorem stepOp_le {c c':CallT} (h:CallLe c c') {draw:Bool} {al:List (Nat×Loc)} {o:Oper} {st:St} {r:OpR} (e:stepOp C c draw al o st=some r):stepOp C c' draw al o st=some r:=by
 unfold stepOp at e ⊢
 split at e <;> try exact e
 all_goals (split at e <;> try exact e)
 rename_i k vs hcal
 split at e
 · cases e
 · rename_i hd
   rw [if_neg hd]
   cases hcut:cutO C _ _ k vs al st.bx with
   | some m=>
    rw [hcut] at e
    simp only at e ⊢
    cases hx:callOp C c k vs (st.bx.take m) with
    | none=>rw [hx] at e;cases e
    | some x=>
     rw [hx] at e
     simp only [callOp_le h hx]
     exact e
   | none=>
    rw [hcut] at e
    simp only at e ⊢
    cases hx:callOp C c k vs st.bx with
    | none=>rw [hx] at e;cases e
    | some x=>
     rw [hx] at e
     simp only [callOp_le h hx]
     exact e
theorem evOps_le {c c':CallT} (h:CallLe c c') {draw:Bool} {ops:Array Oper}:∀ (l:List Oper) (al:List (Nat×Loc)) (st:St) (r:Ex×St),evOps C c draw ops l al st=some r->evOps C c' draw ops l al st=some r
 | [],_,_,_,e=>e
 | o :: rest,al,st,r,e=>by
  unfold evOps at e ⊢
  split at e
  · cases e
  · exact evOps_le h rest _ _ _ e
  · cases hx:stepOp C c draw al o st with
    | none=>rw [hx] at e;cases e
    | some x=>
     rw [hx] at e
     rw [stepOp_le h hx]
     cases x with
     | next st' al'=>exact evOps_le h rest _ _ _ e
     | pan v st'=>exact e
def EvLe (a b:Code->St->Option (Ex×St)):Prop:=∀ c st r,a c st=some r->b c st=some r
theorem bodyQ_le {a b a' b':Code->St->Option (Ex×St)} (h:EvLe a b) (h':EvLe a' b'):CallLe (bodyQ C a a') (bodyQ C b b'):=by
 intro f args bx r e
 unfold bodyQ at e ⊢
 split at e
 · exact e
 · split at e
   · cases e
   · split at e
     · cases e
     · rename_i fn _ _ c _
       split at e
       · rename_i hc
         rw [if_pos hc]
         cases hx:a c ⟨args,bx⟩ with
         | none=>rw [hx] at e;cases e
         | some x=>rw [hx] at e;rw [h _ _ _ hx];exact e
       · rename_i hc
         rw [if_neg hc]
         split at e
         · rename_i hc2
           rw [if_pos hc2]
           cases hx:a' c ⟨args,bx⟩ with
           | none=>rw [hx] at e;cases e
           | some x=>rw [hx] at e;rw [h' _ _ _ hx];exact e
         · cases e
theorem runCat_le {a b:Code->St->Option (Ex×St)} (h:EvLe a b) {k:Cat} {args:List PV} {bx:List PBox} {r:CR×List PBox} (e:runCat k a args bx=some r):runCat k b args bx=some r:=by
 unfold runCat at e ⊢
 cases hst:k.pre args bx with
 | none=>rw [hst] at e;cases e
 | some st=>
  rw [hst] at e
  simp only at e ⊢
  cases hx:a k.code st with
  | none=>rw [hx] at e;cases e
  | some x=>rw [hx] at e;rw [h _ _ _ hx];exact e
theorem bodyP_le {a b a' b':Code->St->Option (Ex×St)} (h:EvLe a b) (h':EvLe a' b'):CallLe (bodyP C a a') (bodyP C b b'):=by
 intro f args bx r e
 unfold bodyP at e ⊢
 split at e
 · exact e
 · split at e
   · exact runCat_le h e
   · split at e
     · rename_i ht
       rw [if_pos ht]
       cases hx:bodyQ C a a' f args bx with
       | none=>rw [hx] at e;cases e
       | some x=>rw [hx] at e;rw [bodyQ_le h h' _ _ _ _ hx];exact e
     · rename_i ht
       rw [if_neg ht]
       exact bodyQ_le h h' _ _ _ _ e
theorem normP_le {c c':CallT} (h:CallLe c c') {ops:Array Oper} {l:List Oper} {st:St} {r:Ex×St} (e:normP (evOps C c false ops l [] st)=some r):normP (evOps C c' false ops l [] st)=some r:=by
 cases hx:evOps C c false ops l [] st with
 | none=>rw [hx] at e;cases e
 | some x=>rw [evOps_le h _ _ _ _ hx,<- hx];exact e
theorem drawAll_le {c c':CallT} (h:CallLe c c') {ops:Array Oper} {st:St} {r:Ex×St} (e:drawAll C c ops st=some r):drawAll C c' ops st=some r:=by
 unfold drawAll at e ⊢
 split at e
 · cases e
 · rename_i l ls hl
   cases hx:normP (evOps C c false ops (pickOps ops l) [] st) with
   | none=>rw [hx] at e;cases e
   | some x=>
    rw [hx] at e
    simp only at e
    split at e
    · rename_i ha
      injection e with e
      subst e
      simp only [normP_le h hx]
      rw [if_pos]
      rw [List.all_eq_true] at ha ⊢
      intro l' hl'
      have hb:=ha l' hl'
      rw [Bool.or_eq_true] at hb ⊢
      rcases hb with hb | hb
      · have:=sameR_eq hb
        rw [normP_le h this]
        exact .inl (sameR_self _)
      · obtain ⟨s,e1,e2,e3⟩:=eqvE_out hb
        rw [normP_le h e1]
        obtain ⟨x1,x2⟩:=x
        simp only at e2
        subst e2
        exact .inr (eqvE_in e3)
    · cases e
theorem drawM_le {c c':CallT} (h:CallLe c c') {ops:Array Oper} {st:St} {r:Ex×St} (e:drawM C c ops st=some r):drawM C c' ops st=some r:=by
 unfold drawM at e ⊢
 split
 · rename_i hc
   rw [if_pos hc] at e
   exact evOps_le h _ _ _ _ e
 · rename_i hc
   rw [if_neg hc] at e
   exact drawAll_le h e
theorem evFB_le1:∀ n br,EvLe (evFB C n br) (evFB C (n+1) br)
 | 0,br=>fun c st r e=>by simp [evFB] at e
 | n+1,br=>fun c st r e=>by
  have ih:=evFB_le1 n br
  have ihc:CallLe (bodyP C (evFB C n false) (evFB C n true)) (bodyP C (evFB C (n+1) false) (evFB C (n+1) true)):=bodyP_le (evFB_le1 n false) (evFB_le1 n true)
  unfold evFB at e ⊢
  cases c with
  | skip=>exact e
  | label _=>exact e
  | region i ops draw=>
   simp only at e ⊢
   split at e
   · rename_i hb
     rw [if_pos hb]
     exact drawM_le ihc e
   · rename_i hb
     rw [if_neg hb]
     exact evOps_le ihc _ _ _ _ e
  | seq a b=>
   simp only at e ⊢
   cases hx:evFB C n br a st with
   | none=>rw [hx] at e;cases e
   | some x=>
    rw [hx] at e
    rw [ih _ _ _ hx]
    obtain ⟨x,st'⟩:=x
    cases x <;> simp only at e ⊢
    · exact ih _ _ _ e
    all_goals exact e
  | cond o a b=>
   simp only at e ⊢
   split at e
   · exact ih _ _ _ e
   · cases e
  | block id b=>
   simp only at e ⊢
   cases hx:evFB C n br b st with
   | none=>rw [hx] at e;cases e
   | some x=>rw [hx] at e;rw [ih _ _ _ hx];exact e
  | loop b=>
   simp only at e ⊢
   cases hx:evFB C n br b st with
   | none=>rw [hx] at e;cases e
   | some x=>
    rw [hx] at e
    rw [ih _ _ _ hx]
    obtain ⟨x,st'⟩:=x
    cases x <;> simp only at e ⊢
    · exact ih _ _ _ e
    all_goals exact e
  | exit id=>exact e
  | ret=>exact e
  | _=>simp at e
theorem evFB_le {n m:Nat} (h:n<=m) (br:Bool):EvLe (evFB C n br) (evFB C m br):=by
 induction h with
 | refl=>exact fun _ _ _ e=>e
 | step _ ih=>exact fun c st r e=>evFB_le1 _ _ _ _ _ (ih _ _ _ e)
open Classical in
noncomputable def evLB (C:Cfg) (br:Bool) (c:Code) (st:St):Option (Ex×St):=if h:∃ r,∃ n,evFB C n br c st=some r then some h.choose else none
noncomputable def evL (C:Cfg):Code->St->Option (Ex×St):=evLB C false
noncomputable def evB (C:Cfg):Code->St->Option (Ex×St):=evLB C true
noncomputable def callL (C:Cfg):CallT:=bodyP C (evL C) (evB C)
theorem evLB_iff {br:Bool} {c:Code} {st:St} {r:Ex×St}:evLB C br c st=some r↔∃ n,evFB C n br c st=some r:=by
 unfold evLB
 split
 · rename_i h
   constructor
   · intro e;injection e with e;subst e;exact h.choose_spec
   · intro ⟨n,hn⟩
     obtain ⟨m,hm⟩:=h.choose_spec
     have a:=evFB_le (Nat.le_max_left n m) br _ _ _ hn
     have b:=evFB_le (Nat.le_max_right n m) br _ _ _ hm
     rw [<- b,<- a]
 · rename_i h
   exact ⟨fun e=>(by cases e),fun hn=>absurd (Exists.intro r hn) h⟩
theorem evFB_evLB (n:Nat) (br:Bool):EvLe (evFB C n br) (evLB C br):=fun _ _ _ e=>evLB_iff.2 ⟨n,e⟩
theorem bodyQ_iff {f:FuncId} {args:List PV} {bx:List PBox} {r:CR×List PBox} (e:bodyQ C (evL C) (evB C) f args bx=some r):∃ n,bodyQ C (evFB C n false) (evFB C n true) f args bx=some r:=by
 unfold bodyQ at e
 split at e
 · rename_i hp
   exact ⟨0,by unfold bodyQ;rw [hp];exact e⟩
 · split at e
   · cases e
   · split at e
     · cases e
     · rename_i hp _ fn hf _ c hb
       split at e
       · rename_i hc
         cases hx:evL C c ⟨args,bx⟩ with
         | none=>rw [hx] at e;cases e
         | some x=>
          obtain ⟨n,hn⟩:=evLB_iff.1 hx
          refine ⟨n,?_⟩
          rw [hx] at e
          unfold bodyQ
          simp only [hp,hf,hb]
          rw [if_pos hc,hn]
          exact e
       · rename_i hc
         split at e
         · rename_i hc2
           cases hx:evB C c ⟨args,bx⟩ with
           | none=>rw [hx] at e;cases e
           | some x=>
            obtain ⟨n,hn⟩:=evLB_iff.1 hx
            refine ⟨n,?_⟩
            rw [hx] at e
            unfold bodyQ
            simp only [hp,hf,hb]
            rw [if_neg hc,if_pos hc2,hn]
            exact e
         · cases e
theorem callL_iff {f:FuncId} {args:List PV} {bx:List PBox} {r:CR×List PBox}:callL C f args bx=some r↔∃ n,callF C n f args bx=some r:=by
 constructor
 · intro e
   unfold callL bodyP at e
   split at e
   · rename_i hp
     exact ⟨0,by unfold callF bodyP;rw [hp];exact e⟩
   · rename_i hp
     split at e
     · rename_i k hk
       unfold runCat at e
       split at e
       · rename_i st hst
         cases hx:evL C k.code st with
         | none=>rw [hx] at e;cases e
         | some x=>
          obtain ⟨n,hn⟩:=evLB_iff.1 hx
          rw [hx] at e
          refine ⟨n,?_⟩
          unfold callF bodyP runCat
          simp only [hp,hk,hst]
          rw [hn]
          exact e
       · cases e
     · rename_i hk
       split at e
       · rename_i ht
         cases hx:bodyQ C (evL C) (evB C) f args bx with
         | none=>rw [hx] at e;cases e
         | some x=>
          obtain ⟨n,hn⟩:=bodyQ_iff hx
          rw [hx] at e
          exact ⟨n,by unfold callF bodyP;simp only [hp,hk,if_pos ht,hn];exact e⟩
       · rename_i ht
         obtain ⟨n,hn⟩:=bodyQ_iff e
         exact ⟨n,by unfold callF bodyP;simp only [hp,hk,if_neg ht];exact hn⟩
 · intro ⟨n,hn⟩
   exact bodyP_le (evFB_evLB n false) (evFB_evLB n true) _ _ _ _ hn
theorem callOp_cont {k:FuncId} {vs:List PV} {bx:List PBox} {x:CR×List PBox} (hx:callOp C (callL C) k vs bx=some x):∃ n,callOp C (callF C n) k vs bx=some x:=by
 unfold callOp at hx ⊢
 by_cases hb:C.heap k=true∨pureL vs=false
 · have hb':(C.heap k || !pureL vs)=true:=by rcases hb with h | h <;> simp [h]
   simp only [hb',if_true] at hx ⊢
   cases hy:callL C k vs bx with
   | none=>rw [hy] at hx;cases hx
   | some y=>rw [hy] at hx;obtain ⟨n,hn⟩:=callL_iff.1 hy;exact ⟨n,by rw [hn];exact hx⟩
 · have hb':¬ (C.heap k || !pureL vs)=true:=by simpa using hb
   simp only [if_neg hb'] at hx ⊢
   cases hy:callL C k vs [] with
   | none=>rw [hy] at hx;cases hx
   | some y=>rw [hy] at hx;obtain ⟨n,hn⟩:=callL_iff.1 hy;exact ⟨n,by rw [hn];exact hx⟩
theorem stepOp_cont {draw:Bool} {al:List (Nat×Loc)} {o:Oper} {st:St} {r:OpR} (e:stepOp C (callL C) draw al o st=some r):∃ n,stepOp C (callF C n) draw al o st=some r:=by
 unfold stepOp at e ⊢
 split at e <;> try exact ⟨0,by simp only [*]⟩
 all_goals try (split at e <;> exact ⟨0,by simp only [*]⟩)
 split at e
 · rename_i k vs hcal
   split at e
   · cases e
   · rename_i hd
     cases hcut:cutO C _ _ k vs al st.bx with
     | some m=>
      rw [hcut] at e
      simp only at e
      cases hx:callOp C (callL C) k vs (st.bx.take m) with
      | none=>rw [hx] at e;cases e
      | some x=>
       rw [hx] at e
       obtain ⟨n,hn⟩:=callOp_cont hx
       exact ⟨n,by rw [if_neg hd];simp only [hcut,hn];exact e⟩
     | none=>
      rw [hcut] at e
      simp only at e
      cases hx:callOp C (callL C) k vs st.bx with
      | none=>rw [hx] at e;cases e
      | some x=>
       rw [hx] at e
       obtain ⟨n,hn⟩:=callOp_cont hx
       exact ⟨n,by rw [if_neg hd];simp only [hcut,hn];exact e⟩
 · cases e
theorem callF_le {n m:Nat} (h:n<=m):CallLe (callF C n) (callF C m):=bodyP_le (evFB_le h false) (evFB_le h true)
theorem evOps_cont {draw:Bool} {ops:Array Oper}:∀ (l:List Oper) (al:List (Nat×Loc)) (st:St) (r:Ex×St),evOps C (callL C) draw ops l al st=some r->∃ n,evOps C (callF C n) draw ops l al st=some r
 | [],_,_,_,e=>⟨0,e⟩
 | o :: rest,al,st,r,e=>by
  unfold evOps at e
  split at e
  · cases e
  · rename_i hw
    obtain ⟨n,hn⟩:=evOps_cont rest _ _ _ e
    exact ⟨n,by unfold evOps;rw [hw];exact hn⟩
  · rename_i hw
    cases hx:stepOp C (callL C) draw al o st with
    | none=>rw [hx] at e;cases e
    | some x=>
     rw [hx] at e
     obtain ⟨n,hn⟩:=stepOp_cont hx
     cases x with
     | next st' al'=>
      obtain ⟨m,hm⟩:=evOps_cont rest _ _ _ e
      refine ⟨max n m,?_⟩
      unfold evOps
      rw [hw]
      simp only [stepOp_le (callF_le (Nat.le_max_left n m)) hn]
      exact evOps_le (callF_le (Nat.le_max_right n m)) _ _ _ _ hm
     | pan v st'=>
      exact ⟨n,by unfold evOps;rw [hw];simp only [hn];exact e⟩
theorem normP_cont {ops:Array Oper} {l:List Oper} {st:St} {r:Ex×St} (e:normP (evOps C (callL C) false ops l [] st)=some r):∃ n,normP (evOps C (callF C n) false ops l [] st)=some r:=by
 cases hx:evOps C (callL C) false ops l [] st with
 | none=>rw [hx] at e;cases e
 | some x=>
  obtain ⟨n,hn⟩:=evOps_cont _ _ _ _ hx
  exact ⟨n,by rw [hn,<- hx];exact e⟩
theorem evOps_all {ops:Array Oper} {st:St} {F:List Nat->Ex×St}:∀ (ls:List (List Nat)),(∀ l ∈ ls,normP (evOps C (callL C) false ops (pickOps ops l) [] st)=some (F l))->∃ n,∀ l ∈ ls,normP (evOps C (callF C n) false ops (pickOps ops l) [] st)=some (F l)
 | [],_=>⟨0,fun l h=>by simp at h⟩
 | l :: ls,h=>by
  obtain ⟨n,hn⟩:=normP_cont (h l (by simp))
  obtain ⟨m,hm⟩:=evOps_all ls (fun l hl=>h l (by simp [hl]))
  refine ⟨max n m,fun l' hl'=>?_⟩
  rcases List.mem_cons.1 hl' with rfl | hl'
  · exact normP_le (callF_le (Nat.le_max_left n m)) hn
  · exact normP_le (callF_le (Nat.le_max_right n m)) (hm l' hl')
def OutOf (n:Nat) (x:Option (Ex×St)) (r:Ex×St):Prop:=x=some r∨∃ s,x=some (.normal,s)∧r.1=.normal∧Eqv n s r.2
theorem OutOf.all {n:Nat} {x:Option (Ex×St)} {r:Ex×St}:(sameR x r || eqvE n x r)=true↔OutOf n x r:=by
 rw [Bool.or_eq_true]
 constructor
 · rintro (h | h)
   · exact .inl (sameR_eq h)
   · exact .inr (eqvE_out h)
 · rintro (h | ⟨s,h,h2,h3⟩)
   · rw [h];exact .inl (sameR_self _)
   · obtain ⟨r1,r2⟩:=r
     simp only at h2 h3
     subst h2
     rw [h]
     exact .inr (eqvE_in h3)
theorem drawAll_out {call:CallT} {ops:Array Oper} {st:St} {r:Ex×St}:drawAll C call ops st=some r↔∃ l0 ls,orders ops=l0 :: ls∧normP (evOps C call false ops (pickOps ops l0) [] st)=some r∧∀ l ∈ ls,OutOf st.bx.length (normP (evOps C call false ops (pickOps ops l) [] st)) r:=by
 unfold drawAll
 cases ho:orders ops with
 | nil=>simp
 | cons l ls=>
  dsimp only
  constructor
  · intro e
    cases hx:normP (evOps C call false ops (pickOps ops l) [] st) with
    | none=>rw [hx] at e;cases e
    | some x=>
     rw [hx] at e
     simp only at e
     split at e
     · rename_i ha
       injection e with e
       subst e
       rw [List.all_eq_true] at ha
       exact ⟨l,ls,rfl,hx,fun l' hl'=>OutOf.all.1 (ha l' hl')⟩
     · cases e
  · rintro ⟨l0,ls0,e,h1,h2⟩
    injection e with e1 e2
    subst e1 e2
    rw [h1]
    simp only
    rw [if_pos]
    rw [List.all_eq_true]
    exact fun l' hl'=>OutOf.all.2 (h2 l' hl')
theorem drawAll_iff {call:CallT} {ops:Array Oper} {st:St} {r:Ex×St}:True∧(orders ops≠[]∧(∀ l ∈ orders ops,normP (evOps C call false ops (pickOps ops l) [] st)=some r)->drawAll C call ops st=some r):=by
 refine ⟨trivial,fun ⟨h1,h2⟩=>drawAll_out.2 ?_⟩
 cases ho:orders ops with
 | nil=>exact absurd ho h1
 | cons l ls=>
  rw [ho] at h2
  exact ⟨l,ls,rfl,h2 l (by simp),fun l' hl'=>.inl (h2 l' (by simp [hl']))⟩
theorem drawAll_cont {ops:Array Oper} {st:St} {r:Ex×St} (e:drawAll C (callL C) ops st=some r):∃ n,drawAll C (callF C n) ops st=some r:=by
 obtain ⟨l0,ls,h0,h1,h2⟩:=drawAll_out.1 e
 have hs:∀ l ∈ l0 :: ls,normP (evOps C (callL C) false ops (pickOps ops l) [] st)=some ((normP (evOps C (callL C) false ops (pickOps ops l) [] st)).getD r):=fun l hl=>by
  rcases List.mem_cons.1 hl with rfl | hl
  · rw [h1];rfl
  · rcases h2 l hl with h | ⟨s,h,_⟩
    · rw [h];rfl
    · rw [h];rfl
 obtain ⟨n,hn⟩:=evOps_all _ hs
 refine ⟨n,drawAll_out.2 ⟨l0,ls,h0,?_,fun l hl=>?_⟩⟩
 · rw [hn l0 (by simp),h1];rfl
 · rw [hn l (by simp [hl])]
   rw [<- hs l (by simp [hl])]
   exact h2 l hl
theorem drawM_cont {ops:Array Oper} {st:St} {r:Ex×St} (e:drawM C (callL C) ops st=some r):∃ n,drawM C (callF C n) ops st=some r:=by
 unfold drawM at e ⊢
 split
 · rename_i hc
   rw [if_pos hc] at e
   exact evOps_cont _ _ _ _ e
 · rename_i hc
   rw [if_neg hc] at e
   exact drawAll_cont e
theorem drawM_all {call:CallT} {ops:Array Oper} {st:St} (h:drawOK C ops=false):drawM C call ops st=drawAll C call ops st:=by unfold drawM;rw [if_neg (by rw [h];decide)]
theorem drawM_calm {call:CallT} {ops:Array Oper} {st:St} (h:drawOK C ops=true):drawM C call ops st=evOps C call true ops ops.toList [] st:=by unfold drawM;rw [if_pos h]
theorem opt_ext {α:Type} {a b:Option α} (h:∀ r,a=some r->b=some r) (k:∀ r,b=some r->a=some r):a=b:=by
 cases a with
 | some x=>exact (h x rfl).symm
 | none=>cases b with
  | none=>rfl
  | some y=>exact k y rfl
theorem evLB_skip (br:Bool) (st:St):evLB C br .skip st=some (.normal,st):=evLB_iff.2 ⟨1,rfl⟩
theorem evLB_exit (br:Bool) (i) (st:St):evLB C br (.exit i) st=some (.exit i,st):=evLB_iff.2 ⟨1,rfl⟩
theorem evLB_ret (br:Bool) (st:St):evLB C br .ret st=some (.ret,st):=evLB_iff.2 ⟨1,rfl⟩
theorem evLB_region (br:Bool) (i) (ops:Array Oper) (draw:Bool) (st:St):evLB C br (.region i ops draw) st=if br && draw then drawM C (callL C) ops st else evOps C (callL C) draw ops ops.toList [] st:=by
 refine opt_ext (fun r h=>?_) (fun r h=>?_)
 · obtain ⟨n,hn⟩:=evLB_iff.1 h
   cases n with
   | zero=>simp [evFB] at hn
   | succ n=>
    unfold evFB at hn
    simp only at hn
    split at hn
    · rename_i hb
      rw [if_pos hb]
      exact drawM_le (bodyP_le (evFB_evLB n false) (evFB_evLB n true)) hn
    · rename_i hb
      rw [if_neg hb]
      exact evOps_le (bodyP_le (evFB_evLB n false) (evFB_evLB n true)) _ _ _ _ hn
 · split at h
   · rename_i hb
     obtain ⟨n,hn⟩:=drawM_cont h
     exact evLB_iff.2 ⟨n+1,by unfold evFB;simp only;rw [if_pos hb];exact hn⟩
   · rename_i hb
     obtain ⟨n,hn⟩:=evOps_cont _ _ _ _ h
     exact evLB_iff.2 ⟨n+1,by unfold evFB;simp only;rw [if_neg hb];exact hn⟩
def thenE (r:Option (Ex×St)) (k:St->Option (Ex×St)):Option (Ex×St):=
 match r with
 | some (.normal,st')=>k st'
 | r=>r
theorem evLB_seq (br:Bool) (a b:Code) (st:St):evLB C br (.seq a b) st=thenE (evLB C br a st) (evLB C br b):=by
 refine opt_ext (fun r h=>?_) (fun r h=>?_)
 · obtain ⟨n,hn⟩:=evLB_iff.1 h
   cases n with
   | zero=>simp [evFB] at hn
   | succ n=>
    unfold evFB at hn
    simp only at hn
    cases hx:evFB C n br a st with
    | none=>rw [hx] at hn;cases hn
    | some x=>
     rw [hx] at hn
     rw [evFB_evLB n br _ _ _ hx]
     obtain ⟨x,st'⟩:=x
     cases x <;> simp only [thenE] at hn ⊢
     · exact evFB_evLB n br _ _ _ hn
     all_goals exact hn
 · cases hx:evLB C br a st with
   | none=>rw [hx] at h;cases h
   | some x=>
    rw [hx] at h
    obtain ⟨n,hn⟩:=evLB_iff.1 hx
    obtain ⟨x,st'⟩:=x
    cases x with
    | normal=>
     simp only [thenE] at h
     obtain ⟨m,hm⟩:=evLB_iff.1 h
     refine evLB_iff.2 ⟨max n m+1,?_⟩
     unfold evFB
     simp only [evFB_le (Nat.le_max_left n m) br _ _ _ hn]
     exact evFB_le (Nat.le_max_right n m) br _ _ _ hm
    | _=>exact evLB_iff.2 ⟨n+1,by unfold evFB;simp only [hn];exact h⟩
theorem evLB_cond (br:Bool) (o:Operand) (a b:Code) (st:St):evLB C br (.cond o a b) st=match opd C st.env o with
 | .bool t=>if t then evLB C br a st else evLB C br b st
 | _=>none:=by
 refine opt_ext (fun r h=>?_) (fun r h=>?_)
 · obtain ⟨n,hn⟩:=evLB_iff.1 h
   cases n with
   | zero=>simp [evFB] at hn
   | succ n=>
    unfold evFB at hn
    simp only at hn
    split at hn
    · rename_i t ht
      rw [ht]
      cases t <;> exact evFB_evLB n br _ _ _ hn
    · cases hn
 · split at h
   · rename_i t ht
     cases t
     all_goals
      obtain ⟨n,hn⟩:=evLB_iff.1 h
      exact evLB_iff.2 ⟨n+1,by unfold evFB;simp only [ht];exact hn⟩
   · cases h
def catchE (id:Nat) (r:Option (Ex×St)):Option (Ex×St):=
 match r with
 | some (.exit id',st')=>if id'=id then some (.normal,st') else some (.exit id',st')
 | r=>r
theorem evLB_block (br:Bool) (id) (b:Code) (st:St):evLB C br (.block id b) st=catchE id (evLB C br b st):=by
 refine opt_ext (fun r h=>?_) (fun r h=>?_)
 · obtain ⟨n,hn⟩:=evLB_iff.1 h
   cases n with
   | zero=>simp [evFB] at hn
   | succ n=>
    unfold evFB at hn
    simp only at hn
    cases hx:evFB C n br b st with
    | none=>rw [hx] at hn;cases hn
    | some x=>rw [hx] at hn;rw [evFB_evLB n br _ _ _ hx];exact hn
 · cases hx:evLB C br b st with
   | none=>rw [hx] at h;cases h
   | some x=>
    rw [hx] at h
    obtain ⟨n,hn⟩:=evLB_iff.1 hx
    exact evLB_iff.2 ⟨n+1,by unfold evFB;simp only [hn];exact h⟩
theorem evLB_loop (br:Bool) (b:Code) (st:St):evLB C br (.loop b) st=thenE (evLB C br b st) (evLB C br (.loop b)):=by
 refine opt_ext (fun r h=>?_) (fun r h=>?_)
 · obtain ⟨n,hn⟩:=evLB_iff.1 h
   cases n with
   | zero=>simp [evFB] at hn
   | succ n=>
    unfold evFB at hn
    simp only at hn
    cases hx:evFB C n br b st with
    | none=>rw [hx] at hn;cases hn
    | some x=>
     rw [hx] at hn
     rw [evFB_evLB n br _ _ _ hx]
     obtain ⟨x,st'⟩:=x
     cases x <;> simp only [thenE] at hn ⊢
     · exact evFB_evLB n br _ _ _ hn
     all_goals exact hn
 · cases hx:evLB C br b st with
   | none=>rw [hx] at h;cases h
   | some x=>
    rw [hx] at h
    obtain ⟨n,hn⟩:=evLB_iff.1 hx
    obtain ⟨x,st'⟩:=x
    cases x with
    | normal=>
     simp only [thenE] at h
     obtain ⟨m,hm⟩:=evLB_iff.1 h
     refine evLB_iff.2 ⟨max n m+1,?_⟩
     unfold evFB
     simp only [evFB_le (Nat.le_max_left n m) br _ _ _ hn]
     exact evFB_le (Nat.le_max_right n m) br _ _ _ hm
    | _=>exact evLB_iff.2 ⟨n+1,by unfold evFB;simp only [hn];exact h⟩
theorem evL_skip (st:St):evL C .skip st=some (.normal,st):=evLB_skip false st
theorem evL_exit (i) (st:St):evL C (.exit i) st=some (.exit i,st):=evLB_exit false i st
theorem evL_ret (st:St):evL C .ret st=some (.ret,st):=evLB_ret false st
theorem evL_region (i) (ops:Array Oper) (draw:Bool) (st:St):evL C (.region i ops draw) st=evOps C (callL C) draw ops ops.toList [] st:=evLB_region false i ops draw st
theorem evL_seq (a b:Code) (st:St):evL C (.seq a b) st=thenE (evL C a st) (evL C b):=evLB_seq false a b st
theorem evL_cond (o:Operand) (a b:Code) (st:St):evL C (.cond o a b) st=match opd C st.env o with
 | .bool t=>if t then evL C a st else evL C b st
 | _=>none:=evLB_cond false o a b st
theorem evL_block (id) (b:Code) (st:St):evL C (.block id b) st=catchE id (evL C b st):=evLB_block false id b st
theorem evL_loop (b:Code) (st:St):evL C (.loop b) st=thenE (evL C b st) (evL C (.loop b)):=evLB_loop false b st
def finB (C:Cfg) (rs:List ResultVar):Option (Ex×St)->Option (CR×List PBox)
 | some (.pan v,st)=>some (.pan v,st.bx)
 | some (.exit _,_)=>none
 | some (_,st)=>match resultsP C st rs with
  | some vs=>some (.ret (oneOr vs),st.bx)
  | none=>none
 | none=>none
theorem callL_enter {f:FuncId} {fn:Func} {c:Code} {args:List PV} {bx:List PBox} (hh:C.hprim f=none) (hp:C.prim f=none) (hf:C.P.funcs[f]?=some fn) (hb:fn.body=some c)
 (hok:fnOK C fn c=true) (hn:args.length<=fn.ntmps) (hk:C.cat f=none:=by rfl) (htw:C.thaw f=false:=by rfl):callL C f args bx=finB C fn.results.toList (evL C c ⟨args,bx⟩):=by
 unfold callL bodyP bodyQ
 simp only [hh,hp,hk,htw,Bool.false_eq_true,if_false,hf,hb,hok,Bool.true_and,decide_eq_true hn,if_true]
 cases evL C c ⟨args,bx⟩ with
 | none=>rfl
 | some x=>
  obtain ⟨x,st⟩:=x
  cases x <;> rfl
theorem callL_enterB {f:FuncId} {fn:Func} {c:Code} {args:List PV} {bx:List PBox} (hh:C.hprim f=none) (hp:C.prim f=none) (hf:C.P.funcs[f]?=some fn) (hb:fn.body=some c)
 (hno:fnOK C fn c=false) (hok:fnOKB C fn c=true) (hn:args.length<=fn.ntmps) (hk:C.cat f=none:=by rfl) (htw:C.thaw f=false:=by rfl):callL C f args bx=finB C fn.results.toList (evB C c ⟨args,bx⟩):=by
 unfold callL bodyP bodyQ
 simp only [hh,hp,hk,htw,hf,hb,hno,hok,Bool.true_and,Bool.false_and,Bool.false_eq_true,if_false,decide_eq_true hn,if_true]
 cases evB C c ⟨args,bx⟩ with
 | none=>rfl
 | some x=>
  obtain ⟨x,st⟩:=x
  cases x <;> rfl
theorem callL_enterT {f:FuncId} {fn:Func} {c:Code} {args:List PV} {bx:List PBox} (hh:C.hprim f=none) (hp:C.prim f=none) (hf:C.P.funcs[f]?=some fn) (hb:fn.body=some c)
 (hok:fnOK C fn c=true) (hn:args.length<=fn.ntmps) (hk:C.cat f=none:=by rfl) (htw:C.thaw f=true:=by rfl):callL C f args bx=endQ C bx.length (finB C fn.results.toList (evL C c ⟨args,bx⟩)):=by
 unfold callL bodyP bodyQ
 simp only [hh,hp,hk,htw,hf,hb,hok,Bool.true_and,decide_eq_true hn,if_true]
 cases evL C c ⟨args,bx⟩ with
 | none=>rfl
 | some x=>
  obtain ⟨x,st⟩:=x
  cases x <;> rfl
theorem callL_enterTB {f:FuncId} {fn:Func} {c:Code} {args:List PV} {bx:List PBox} (hh:C.hprim f=none) (hp:C.prim f=none) (hf:C.P.funcs[f]?=some fn) (hb:fn.body=some c)
 (hno:fnOK C fn c=false) (hok:fnOKB C fn c=true) (hn:args.length<=fn.ntmps) (hk:C.cat f=none:=by rfl) (htw:C.thaw f=true:=by rfl):callL C f args bx=endQ C bx.length (finB C fn.results.toList (evB C c ⟨args,bx⟩)):=by
 unfold callL bodyP bodyQ
 simp only [hh,hp,hk,htw,hf,hb,hno,hok,Bool.true_and,Bool.false_and,Bool.false_eq_true,if_false,decide_eq_true hn,if_true]
 cases evB C c ⟨args,bx⟩ with
 | none=>rfl
 | some x=>
  obtain ⟨x,st⟩:=x
  cases x <;> rfl
end Go.HH
