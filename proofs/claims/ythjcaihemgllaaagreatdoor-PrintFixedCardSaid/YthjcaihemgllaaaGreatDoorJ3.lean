/-
  What the law needs, packed: Lim.
-/
import Derived.Test.YthjcaihemgllaaaGreatDoorJ2
open Nat renaming le_max_right->Aa0,le_max_left->Aa1
open List renaming all_eq_true->Aa2,mem_cons->Aa4
open Bool renaming or_eq_true->Aa3,true_and->Aa5
namespace Go.HH
open Go
def HQ (c c':Cl):Prop:=∀ f args bx r,c f args bx=some r->c' f args bx=some r
variable {C:Cfg}
theorem UD {c c':Cl} (h:HQ c c') {f:FuncId} {args:List PV} {bx:List PBox} {r:CR×List PBox} (e:Ai C c f args bx=some r):Ai C c' f args bx=some r:=by
 unfold Ai at e |-;split
 · rename_i hc
   rw [if_pos hc] at e;cases hx:c f args bx with
   | none=>rw [hx] at e;cases e
   | some x=>rw [hx] at e;rw [h _ _ _ _ hx];exact e
 · rename_i hc
   rw [if_neg hc] at e;cases hx:c f args [] with
   | none=>rw [hx] at e;cases e
   | some x=>rw [hx] at e;rw [h _ _ _ _ hx];exact e
theorem UE {c c':Cl} (h:HQ c c') {draw:Bool} {al:List (Nat×Loc)} {o:Oper} {st:St} {r:OpR} (e:Bp C c draw al o st=some r):Bp C c' draw al o st=some r:=by
 unfold Bp at e |-;split at e <;> try exact e
 all_goals (split at e <;> try exact e)
 rename_i k vs hcal;split at e
 · cases e
 · rename_i hd
   rw [if_neg hd];cases Cq:JK C _ _ k vs al st.bx with
   | some m=>
    rw [Cq] at e;simp only at e |-;cases hx:Ai C c k vs (st.bx.take m) with
    | none=>rw [hx] at e;cases e
    | some x=>
     rw [hx] at e;simp only [UD h hx];exact e
   | none=>
    rw [Cq] at e;simp only at e |-;cases hx:Ai C c k vs st.bx with
    | none=>rw [hx] at e;cases e
    | some x=>
     rw [hx] at e;simp only [UD h hx];exact e
theorem GZ {c c':Cl} (h:HQ c c') {draw:Bool} {ops:Array Oper}:∀ (l:List Oper) (al:List (Nat×Loc)) (st:St) (r:Ex×St),evOps C c draw ops l al st=some r->evOps C c' draw ops l al st=some r
 | [],_,_,_,e=>e
 | o :: rest,al,st,r,e=>by
  unfold evOps at e |-;split at e
  · cases e
  · exact GZ h rest _ _ _ e
  · cases hx:Bp C c draw al o st with
    | none=>rw [hx] at e;cases e
    | some x=>
     rw [hx] at e;rw [UE h hx];cases x with
     | next st' al'=>exact GZ h rest _ _ _ e
     | pan v st'=>exact e
def XC (a b:Code->St->Option (Ex×St)):Prop:=∀ c st r,a c st=some r->b c st=some r
theorem ij {a b a' b':Code->St->Option (Ex×St)} (h:XC a b) (h':XC a' b'):HQ (GB C a a') (GB C b b'):=by
 intro f args bx r e;unfold GB at e |-;split at e
 · exact e
 · split at e
   · cases e
   · split at e
     · cases e
     · rename_i fn _ _ c _
       split at e
       · rename_i hc
         rw [if_pos hc];cases hx:a c ⟨args,bx⟩ with
         | none=>rw [hx] at e;cases e
         | some x=>rw [hx] at e;rw [h _ _ _ hx];exact e
       · rename_i hc
         rw [if_neg hc];split at e
         · rename_i SY
           rw [if_pos SY];cases hx:a' c ⟨args,bx⟩ with
           | none=>rw [hx] at e;cases e
           | some x=>rw [hx] at e;rw [h' _ _ _ hx];exact e
         · cases e
theorem eE {a b:Code->St->Option (Ex×St)} (h:XC a b) {k:Cat} {args:List PV} {bx:List PBox} {r:CR×List PBox} (e:Et k a args bx=some r):Et k b args bx=some r:=by
 unfold Et at e |-;cases Ez:k.pre args bx with
 | none=>rw [Ez] at e;cases e
 | some st=>
  rw [Ez] at e;simp only at e |-;cases hx:a k.code st with
  | none=>rw [hx] at e;cases e
  | some x=>rw [hx] at e;rw [h _ _ _ hx];exact e
theorem Kb {a b a' b':Code->St->Option (Ex×St)} (h:XC a b) (h':XC a' b'):HQ (En C a a') (En C b b'):=by
 intro f args bx r e;unfold En at e |-;split at e
 · exact e
 · split at e
   · exact eE h e
   · exact ij h h' _ _ _ _ e
theorem Kc {c c':Cl} (h:HQ c c') {ops:Array Oper} {l:List Oper} {st:St} {r:Ex×St} (e:DM (evOps C c false ops l [] st)=some r):DM (evOps C c' false ops l [] st)=some r:=by
 cases hx:evOps C c false ops l [] st with
 | none=>rw [hx] at e;cases e
 | some x=>rw [GZ h _ _ _ _ hx,<- hx];exact e
theorem ZL {c c':Cl} (h:HQ c c') {ops:Array Oper} {st:St} {r:Ex×St} (e:drawAll C c ops st=some r):drawAll C c' ops st=some r:=by
 unfold drawAll at e |-;split at e
 · cases e
 · rename_i l ls hl
   cases hx:DM (evOps C c false ops (AR ops l) [] st) with
   | none=>rw [hx] at e;cases e
   | some x=>
    rw [hx] at e;simp only at e;split at e
    · rename_i ha
      injection e with e
      subst e;simp only [Kc h hx];rw [if_pos];rw [Aa2] at ha |-;intro l' D4;have hb:=ha l' D4;rw [Aa3] at hb |-;rcases hb with hb | hb
      · have:=XA hb
        rw [Kc h this];exact .inl (QN _)
      · obtain ⟨s,e1,e2,e3⟩:=XB hb
        rw [Kc h e1];obtain ⟨x1,x2⟩:=x;simp only at e2;subst e2;exact .inr (cd e3)
    · cases e
theorem XD {c c':Cl} (h:HQ c c') {ops:Array Oper} {st:St} {r:Ex×St} (e:GY C c ops st=some r):GY C c' ops st=some r:=by
 unfold GY at e |-;split
 · rename_i hc
   rw [if_pos hc] at e;exact GZ h _ _ _ _ e
 · rename_i hc
   rw [if_neg hc] at e;exact ZL h e
theorem My:∀ n br,XC (BY C n br) (BY C (n+1) br)
 | 0,br=>fun c st r e=>by simp [BY] at e
 | n+1,br=>fun c st r e=>by
  have ih:=My n br;have ihc:HQ (En C (BY C n false) (BY C n true)) (En C (BY C (n+1) false) (BY C (n+1) true)):=Kb (My n false) (My n true);unfold BY at e |-;cases c with
  | skip=>exact e
  | label _=>exact e
  | region i ops draw=>
   simp only at e |-;split at e
   · rename_i hb
     rw [if_pos hb];exact XD ihc e
   · rename_i hb
     rw [if_neg hb];exact GZ ihc _ _ _ _ e
  | seq a b=>
   simp only at e |-;cases hx:BY C n br a st with
   | none=>rw [hx] at e;cases e
   | some x=>
    rw [hx] at e;rw [ih _ _ _ hx];obtain ⟨x,st'⟩:=x;cases x <;> simp only at e |-
    · exact ih _ _ _ e
    all_goals exact e
  | cond o a b=>
   simp only at e |-;split at e
   · exact ih _ _ _ e
   · cases e
  | block id b=>
   simp only at e |-;cases hx:BY C n br b st with
   | none=>rw [hx] at e;cases e
   | some x=>rw [hx] at e;rw [ih _ _ _ hx];exact e
  | loop b=>
   simp only at e |-;cases hx:BY C n br b st with
   | none=>rw [hx] at e;cases e
   | some x=>
    rw [hx] at e;rw [ih _ _ _ hx];obtain ⟨x,st'⟩:=x;cases x <;> simp only at e |-
    · exact ih _ _ _ e
    all_goals exact e
  | exit id=>exact e
  | ret=>exact e
  | _=>simp at e
theorem HB {n m:Nat} (h:n<=m) (br:Bool):XC (BY C n br) (BY C m br):=by
 induction h with
 | refl=>exact fun _ _ _ e=>e
 | step _ ih=>exact fun c st r e=>My _ _ _ _ _ (ih _ _ _ e)
open Classical in
noncomputable def G0 (C:Cfg) (br:Bool) (c:Code) (st:St):Option (Ex×St):=if h:∃ r,∃ n,BY C n br c st=some r then some h.choose else none
noncomputable def Co (C:Cfg):Code->St->Option (Ex×St):=G0 C false
noncomputable def Lh (C:Cfg):Code->St->Option (Ex×St):=G0 C true
noncomputable def Ad (C:Cfg):Cl:=En C (Co C) (Lh C)
theorem BA {br:Bool} {c:Code} {st:St} {r:Ex×St}:G0 C br c st=some r↔∃ n,BY C n br c st=some r:=by
 unfold G0;split
 · rename_i h
   constructor
   · intro e;injection e with e;subst e;exact h.choose_spec
   · intro ⟨n,hn⟩
     obtain ⟨m,hm⟩:=h.choose_spec;have a:=HB (Aa1 n m) br _ _ _ hn;have b:=HB (Aa0 n m) br _ _ _ hm;rw [<- b,<- a]
 · rename_i h
   exact ⟨fun e=>(by cases e),fun hn=>absurd (Exists.intro r hn) h⟩
theorem Db (n:Nat) (br:Bool):XC (BY C n br) (G0 C br):=fun _ _ _ e=>BA.2 ⟨n,e⟩
theorem eF {f:FuncId} {args:List PV} {bx:List PBox} {r:CR×List PBox} (e:GB C (Co C) (Lh C) f args bx=some r):∃ n,GB C (BY C n false) (BY C n true) f args bx=some r:=by
 unfold GB at e;split at e
 · rename_i hp
   exact ⟨0,by unfold GB;rw [hp];exact e⟩
 · split at e
   · cases e
   · split at e
     · cases e
     · rename_i hp _ fn hf _ c hb
       split at e
       · rename_i hc
         cases hx:Co C c ⟨args,bx⟩ with
         | none=>rw [hx] at e;cases e
         | some x=>
          obtain ⟨n,hn⟩:=BA.1 hx;refine ⟨n,?_⟩;rw [hx] at e;unfold GB;simp only [hp,hf,hb];rw [if_pos hc,hn];exact e
       · rename_i hc
         split at e
         · rename_i SY
           cases hx:Lh C c ⟨args,bx⟩ with
           | none=>rw [hx] at e;cases e
           | some x=>
            obtain ⟨n,hn⟩:=BA.1 hx;refine ⟨n,?_⟩;rw [hx] at e;unfold GB;simp only [hp,hf,hb];rw [if_neg hc,if_pos SY,hn];exact e
         · cases e
theorem ES {f:FuncId} {args:List PV} {bx:List PBox} {r:CR×List PBox}:Ad C f args bx=some r↔∃ n,Ff C n f args bx=some r:=by
 constructor
 · intro e
   unfold Ad En at e;split at e
   · rename_i hp
     exact ⟨0,by unfold Ff En;rw [hp];exact e⟩
   · rename_i hp
     split at e
     · rename_i k hk
       unfold Et at e;split at e
       · rename_i st Ez
         cases hx:Co C k.code st with
         | none=>rw [hx] at e;cases e
         | some x=>
          obtain ⟨n,hn⟩:=BA.1 hx;rw [hx] at e;refine ⟨n,?_⟩;unfold Ff En Et;simp only [hp,hk,Ez];rw [hn];exact e
       · cases e
     · rename_i hk
       obtain ⟨n,hn⟩:=eF e;exact ⟨n,by unfold Ff En;simp only [hp,hk];exact hn⟩
 · intro ⟨n,hn⟩
   exact Kb (Db n false) (Db n true) _ _ _ _ hn
theorem OY {k:FuncId} {vs:List PV} {bx:List PBox} {x:CR×List PBox} (hx:Ai C (Ad C) k vs bx=some x):∃ n,Ai C (Ff C n) k vs bx=some x:=by
 unfold Ai at hx |-;by_cases hb:C.heap k=true\/Al vs=false
 · have dY:(C.heap k || !Al vs)=true:=by rcases hb with h | h <;> simp [h]
   simp only [dY,if_true] at hx |-;cases hy:Ad C k vs bx with
   | none=>rw [hy] at hx;cases hx
   | some y=>rw [hy] at hx;obtain ⟨n,hn⟩:=ES.1 hy;exact ⟨n,by rw [hn];exact hx⟩
 · have dY:¬ (C.heap k || !Al vs)=true:=by simpa using hb
   simp only [if_neg dY] at hx |-;cases hy:Ad C k vs [] with
   | none=>rw [hy] at hx;cases hx
   | some y=>rw [hy] at hx;obtain ⟨n,hn⟩:=ES.1 hy;exact ⟨n,by rw [hn];exact hx⟩
theorem XE {draw:Bool} {al:List (Nat×Loc)} {o:Oper} {st:St} {r:OpR} (e:Bp C (Ad C) draw al o st=some r):∃ n,Bp C (Ff C n) draw al o st=some r:=by
 unfold Bp at e |-;split at e <;> try exact ⟨0,by simp only [*]⟩
 all_goals try (split at e <;> exact ⟨0,by simp only [*]⟩)
 split at e
 · rename_i k vs hcal
   split at e
   · cases e
   · rename_i hd
     cases Cq:JK C _ _ k vs al st.bx with
     | some m=>
      rw [Cq] at e;simp only at e;cases hx:Ai C (Ad C) k vs (st.bx.take m) with
      | none=>rw [hx] at e;cases e
      | some x=>
       rw [hx] at e;obtain ⟨n,hn⟩:=OY hx;exact ⟨n,by rw [if_neg hd];simp only [Cq,hn];exact e⟩
     | none=>
      rw [Cq] at e;simp only at e;cases hx:Ai C (Ad C) k vs st.bx with
      | none=>rw [hx] at e;cases e
      | some x=>
       rw [hx] at e;obtain ⟨n,hn⟩:=OY hx;exact ⟨n,by rw [if_neg hd];simp only [Cq,hn];exact e⟩
 · cases e
theorem Mz {n m:Nat} (h:n<=m):HQ (Ff C n) (Ff C m):=Kb (HB h false) (HB h true)
theorem G1 {draw:Bool} {ops:Array Oper}:∀ (l:List Oper) (al:List (Nat×Loc)) (st:St) (r:Ex×St),evOps C (Ad C) draw ops l al st=some r->∃ n,evOps C (Ff C n) draw ops l al st=some r
 | [],_,_,_,e=>⟨0,e⟩
 | o :: rest,al,st,r,e=>by
  unfold evOps at e;split at e
  · cases e
  · rename_i hw
    obtain ⟨n,hn⟩:=G1 rest _ _ _ e;exact ⟨n,by unfold evOps;rw [hw];exact hn⟩
  · rename_i hw
    cases hx:Bp C (Ad C) draw al o st with
    | none=>rw [hx] at e;cases e
    | some x=>
     rw [hx] at e;obtain ⟨n,hn⟩:=XE hx;cases x with
     | next st' al'=>
      obtain ⟨m,hm⟩:=G1 rest _ _ _ e;refine ⟨max n m,?_⟩;unfold evOps;rw [hw];simp only [UE (Mz (Aa1 n m)) hn];exact GZ (Mz (Aa0 n m)) _ _ _ _ hm
     | pan v st'=>
      exact ⟨n,by unfold evOps;rw [hw];simp only [hn];exact e⟩
theorem ZM {ops:Array Oper} {l:List Oper} {st:St} {r:Ex×St} (e:DM (evOps C (Ad C) false ops l [] st)=some r):∃ n,DM (evOps C (Ff C n) false ops l [] st)=some r:=by
 cases hx:evOps C (Ad C) false ops l [] st with
 | none=>rw [hx] at e;cases e
 | some x=>
  obtain ⟨n,hn⟩:=G1 _ _ _ _ hx;exact ⟨n,by rw [hn,<- hx];exact e⟩
theorem UF {ops:Array Oper} {st:St} {F:List Nat->Ex×St}:∀ (ls:List (List Nat)),(∀ l ∈ ls,DM (evOps C (Ad C) false ops (AR ops l) [] st)=some (F l))->∃ n,∀ l ∈ ls,DM (evOps C (Ff C n) false ops (AR ops l) [] st)=some (F l)
 | [],_=>⟨0,fun l h=>by simp at h⟩
 | l :: ls,h=>by
  obtain ⟨n,hn⟩:=ZM (h l (by simp));obtain ⟨m,hm⟩:=UF ls (fun l hl=>h l (by simp [hl]));refine ⟨max n m,fun l' D4=>?_⟩;rcases Aa4.1 D4 with rfl | D4
  · exact Kc (Mz (Aa1 n m)) hn
  · exact Kc (Mz (Aa0 n m)) (hm l' D4)
def QO (n:Nat) (x:Option (Ex×St)) (r:Ex×St):Prop:=x=some r\/∃ s,x=some (.normal,s)/\r.1=.normal/\Eqv n s r.2
theorem QO.all {n:Nat} {x:Option (Ex×St)} {r:Ex×St}:(UC x r || eD n x r)=true↔QO n x r:=by
 rw [Aa3];constructor
 · rintro (h | h)
   · exact .inl (XA h)
   · exact .inr (XB h)
 · rintro (h | ⟨s,h,h2,h3⟩)
   · rw [h];exact .inl (QN _)
   · obtain ⟨r1,r2⟩:=r
     simp only at h2 h3;subst h2;rw [h];exact .inr (cd h3)
theorem Gi {call:Cl} {ops:Array Oper} {st:St} {r:Ex×St}:drawAll C call ops st=some r↔∃ l0 ls,BO ops=l0 :: ls/\DM (evOps C call false ops (AR ops l0) [] st)=some r/\∀ l ∈ ls,QO st.bx.length (DM (evOps C call false ops (AR ops l) [] st)) r:=by
 unfold drawAll;cases ho:BO ops with
 | nil=>simp
 | cons l ls=>
  dsimp only;constructor
  · intro e
    cases hx:DM (evOps C call false ops (AR ops l) [] st) with
    | none=>rw [hx] at e;cases e
    | some x=>
     rw [hx] at e;simp only at e;split at e
     · rename_i ha
       injection e with e
       subst e;rw [Aa2] at ha;exact ⟨l,ls,rfl,hx,fun l' D4=>QO.all.1 (ha l' D4)⟩
     · cases e
  · rintro ⟨l0,ls0,e,h1,h2⟩
    injection e with e1 e2
    subst e1 e2;rw [h1];simp only;rw [if_pos];rw [Aa2];exact fun l' D4=>QO.all.2 (h2 l' D4)
theorem AV {call:Cl} {ops:Array Oper} {st:St} {r:Ex×St}:True/\(BO ops≠[]/\(∀ l ∈ BO ops,DM (evOps C call false ops (AR ops l) [] st)=some r)->drawAll C call ops st=some r):=by
 refine ⟨trivial,fun ⟨h1,h2⟩=>Gi.2 ?_⟩;cases ho:BO ops with
 | nil=>exact absurd ho h1
 | cons l ls=>
  rw [ho] at h2;exact ⟨l,ls,rfl,h2 l (by simp),fun l' D4=>.inl (h2 l' (by simp [D4]))⟩
theorem VJ {ops:Array Oper} {st:St} {r:Ex×St} (e:drawAll C (Ad C) ops st=some r):∃ n,drawAll C (Ff C n) ops st=some r:=by
 obtain ⟨l0,ls,h0,h1,h2⟩:=Gi.1 e
 have hs:∀ l ∈ l0 :: ls,DM (evOps C (Ad C) false ops (AR ops l) [] st)=some ((DM (evOps C (Ad C) false ops (AR ops l) [] st)).getD r):=fun l hl=>by
  rcases Aa4.1 hl with rfl | hl
  · rw [h1];rfl
  · rcases h2 l hl with h | ⟨s,h,_⟩
    · rw [h];rfl
    · rw [h];rfl
 obtain ⟨n,hn⟩:=UF _ hs;refine ⟨n,Gi.2 ⟨l0,ls,h0,?_,fun l hl=>?_⟩⟩
 · rw [hn l0 (by simp),h1];rfl
 · rw [hn l (by simp [hl])]
   rw [<- hs l (by simp [hl])];exact h2 l hl
theorem ZN {ops:Array Oper} {st:St} {r:Ex×St} (e:GY C (Ad C) ops st=some r):∃ n,GY C (Ff C n) ops st=some r:=by
 unfold GY at e |-;split
 · rename_i hc
   rw [if_pos hc] at e;exact G1 _ _ _ _ e
 · rename_i hc
   rw [if_neg hc] at e;exact VJ e
theorem A6 {call:Cl} {ops:Array Oper} {st:St} (h:CL C ops=false):GY C call ops st=drawAll C call ops st:=by unfold GY;rw [if_neg (by rw [h];decide)]
theorem MA {α:Type} {a b:Option α} (h:∀ r,a=some r->b=some r) (k:∀ r,b=some r->a=some r):a=b:=by
 cases a with
 | some x=>exact (h x rfl).symm
 | none=>cases b with
  | none=>rfl
  | some y=>exact k y rfl
theorem UG (br:Bool) (st:St):G0 C br .skip st=some (.normal,st):=BA.2 ⟨1,rfl⟩
theorem UH (br:Bool) (i) (st:St):G0 C br (.exit i) st=some (.exit i,st):=BA.2 ⟨1,rfl⟩
theorem XF (br:Bool) (st:St):G0 C br .ret st=some (.ret,st):=BA.2 ⟨1,rfl⟩
theorem Kd (br:Bool) (i) (ops:Array Oper) (draw:Bool) (st:St):G0 C br (.region i ops draw) st=if br && draw then GY C (Ad C) ops st else evOps C (Ad C) draw ops ops.toList [] st:=by
 refine MA (fun r h=>?_) (fun r h=>?_)
 · obtain ⟨n,hn⟩:=BA.1 h
   cases n with
   | zero=>simp [BY] at hn
   | succ n=>
    unfold BY at hn;simp only at hn;split at hn
    · rename_i hb
      rw [if_pos hb];exact XD (Kb (Db n false) (Db n true)) hn
    · rename_i hb
      rw [if_neg hb];exact GZ (Kb (Db n false) (Db n true)) _ _ _ _ hn
 · split at h
   · rename_i hb
     obtain ⟨n,hn⟩:=ZN h;exact BA.2 ⟨n+1,by unfold BY;simp only;rw [if_pos hb];exact hn⟩
   · rename_i hb
     obtain ⟨n,hn⟩:=G1 _ _ _ _ h;exact BA.2 ⟨n+1,by unfold BY;simp only;rw [if_neg hb];exact hn⟩
def Ea (r:Option (Ex×St)) (k:St->Option (Ex×St)):Option (Ex×St):=
 match r with
 | some (.normal,st')=>k st'
 | r=>r
theorem XG (br:Bool) (a b:Code) (st:St):G0 C br (.seq a b) st=Ea (G0 C br a st) (G0 C br b):=by
 refine MA (fun r h=>?_) (fun r h=>?_)
 · obtain ⟨n,hn⟩:=BA.1 h
   cases n with
   | zero=>simp [BY] at hn
   | succ n=>
    unfold BY at hn;simp only at hn;cases hx:BY C n br a st with
    | none=>rw [hx] at hn;cases hn
    | some x=>
     rw [hx] at hn;rw [Db n br _ _ _ hx];obtain ⟨x,st'⟩:=x;cases x <;> simp only [Ea] at hn |-
     · exact Db n br _ _ _ hn
     all_goals exact hn
 · cases hx:G0 C br a st with
   | none=>rw [hx] at h;cases h
   | some x=>
    rw [hx] at h;obtain ⟨n,hn⟩:=BA.1 hx;obtain ⟨x,st'⟩:=x;cases x with
    | normal=>
     simp only [Ea] at h;obtain ⟨m,hm⟩:=BA.1 h;refine BA.2 ⟨max n m+1,?_⟩;unfold BY;simp only [HB (Aa1 n m) br _ _ _ hn];exact HB (Aa0 n m) br _ _ _ hm
    | _=>exact BA.2 ⟨n+1,by unfold BY;simp only [hn];exact h⟩
theorem UI (br:Bool) (o:Operand) (a b:Code) (st:St):G0 C br (.cond o a b) st=match opd C st.env o with
 | .bool t=>if t then G0 C br a st else G0 C br b st
 | _=>none:=by
 refine MA (fun r h=>?_) (fun r h=>?_)
 · obtain ⟨n,hn⟩:=BA.1 h
   cases n with
   | zero=>simp [BY] at hn
   | succ n=>
    unfold BY at hn;simp only at hn;split at hn
    · rename_i t ht
      rw [ht];cases t <;> exact Db n br _ _ _ hn
    · cases hn
 · split at h
   · rename_i t ht
     cases t
     all_goals
      obtain ⟨n,hn⟩:=BA.1 h;exact BA.2 ⟨n+1,by unfold BY;simp only [ht];exact hn⟩
   · cases h
def EM (id:Nat) (r:Option (Ex×St)):Option (Ex×St):=
 match r with
 | some (.exit id',st')=>if id'=id then some (.normal,st') else some (.exit id',st')
 | r=>r
theorem QP (br:Bool) (id) (b:Code) (st:St):G0 C br (.block id b) st=EM id (G0 C br b st):=by
 refine MA (fun r h=>?_) (fun r h=>?_)
 · obtain ⟨n,hn⟩:=BA.1 h
   cases n with
   | zero=>simp [BY] at hn
   | succ n=>
    unfold BY at hn;simp only at hn;cases hx:BY C n br b st with
    | none=>rw [hx] at hn;cases hn
    | some x=>rw [hx] at hn;rw [Db n br _ _ _ hx];exact hn
 · cases hx:G0 C br b st with
   | none=>rw [hx] at h;cases h
   | some x=>
    rw [hx] at h;obtain ⟨n,hn⟩:=BA.1 hx;exact BA.2 ⟨n+1,by unfold BY;simp only [hn];exact h⟩
theorem UJ (br:Bool) (b:Code) (st:St):G0 C br (.loop b) st=Ea (G0 C br b st) (G0 C br (.loop b)):=by
 refine MA (fun r h=>?_) (fun r h=>?_)
 · obtain ⟨n,hn⟩:=BA.1 h
   cases n with
   | zero=>simp [BY] at hn
   | succ n=>
    unfold BY at hn;simp only at hn;cases hx:BY C n br b st with
    | none=>rw [hx] at hn;cases hn
    | some x=>
     rw [hx] at hn;rw [Db n br _ _ _ hx];obtain ⟨x,st'⟩:=x;cases x <;> simp only [Ea] at hn |-
     · exact Db n br _ _ _ hn
     all_goals exact hn
 · cases hx:G0 C br b st with
   | none=>rw [hx] at h;cases h
   | some x=>
    rw [hx] at h;obtain ⟨n,hn⟩:=BA.1 hx;obtain ⟨x,st'⟩:=x;cases x with
    | normal=>
     simp only [Ea] at h;obtain ⟨m,hm⟩:=BA.1 h;refine BA.2 ⟨max n m+1,?_⟩;unfold BY;simp only [HB (Aa1 n m) br _ _ _ hn];exact HB (Aa0 n m) br _ _ _ hm
    | _=>exact BA.2 ⟨n+1,by unfold BY;simp only [hn];exact h⟩
theorem XH (st:St):Co C .skip st=some (.normal,st):=UG false st
theorem XI (i) (st:St):Co C (.exit i) st=some (.exit i,st):=UH false i st
theorem cf (st:St):Co C .ret st=some (.ret,st):=XF false st
theorem QQ (i) (ops:Array Oper) (draw:Bool) (st:St):Co C (.region i ops draw) st=evOps C (Ad C) draw ops ops.toList [] st:=Kd false i ops draw st
theorem cg (a b:Code) (st:St):Co C (.seq a b) st=Ea (Co C a st) (Co C b):=XG false a b st
theorem ik (o:Operand) (a b:Code) (st:St):Co C (.cond o a b) st=match opd C st.env o with
 | .bool t=>if t then Co C a st else Co C b st
 | _=>none:=UI false o a b st
theorem UK (id) (b:Code) (st:St):Co C (.block id b) st=EM id (Co C b st):=QP false id b st
theorem il (b:Code) (st:St):Co C (.loop b) st=Ea (Co C b st) (Co C (.loop b)):=UJ false b st
def Fin:=Option (Ex×St)->Option (CR×List PBox)
def CM (C:Cfg) (rs:List ResultVar):Option (Ex×St)->Option (CR×List PBox)
 | some (.pan v,st)=>some (.pan v,st.bx)
 | some (.exit _,_)=>none
 | some (_,st)=>match Cn C st rs with
  | some vs=>some (.ret (Ii vs),st.bx)
  | none=>none
 | none=>none
theorem Ah {f:FuncId} {fn:Func} {c:Code} {args:List PV} {bx:List PBox} (hh:C.hprim f=none) (hp:C.prim f=none) (hf:C.P.funcs[f]?=some fn) (hb:fn.body=some c)
 (EA:Be C fn c=true) (hn:args.length<=fn.ntmps) (hk:C.cat f=none:=by rfl):Ad C f args bx=CM C fn.results.toList (Co C c ⟨args,bx⟩):=by
 unfold Ad En GB;simp only [hh,hp,hk,hf,hb,EA,Aa5,decide_eq_true hn,if_true];cases Co C c ⟨args,bx⟩ with
 | none=>rfl
 | some x=>
  obtain ⟨x,st⟩:=x;cases x <;> rfl
theorem CN {f:FuncId} {fn:Func} {c:Code} {args:List PV} {bx:List PBox} (hh:C.hprim f=none) (hp:C.prim f=none) (hf:C.P.funcs[f]?=some fn) (hb:fn.body=some c)
 (GU:Be C fn c=false) (EA:Jy C fn c=true) (hn:args.length<=fn.ntmps) (hk:C.cat f=none:=by rfl):Ad C f args bx=CM C fn.results.toList (Lh C c ⟨args,bx⟩):=by
 unfold Ad En GB;simp only [hh,hp,hk,hf,hb,GU,EA,Aa5,Bool.false_and,Bool.false_eq_true,if_false,decide_eq_true hn,if_true];cases Lh C c ⟨args,bx⟩ with
 | none=>rfl
 | some x=>
  obtain ⟨x,st⟩:=x;cases x <;> rfl
theorem K5 {f:FuncId} {k:Cat} {args:List PV} {bx:List PBox} (hh:C.hprim f=none) (hk:C.cat f=some k):Ad C f args bx=Et k (Co C) args bx:=by
 unfold Ad En;simp only [hh,hk]
end Go.HH
