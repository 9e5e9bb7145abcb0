/-
  What the law needs, packed: Lim.
-/
import Derived.Test.YthjcaihemgllaaaGreatDoorK2
open Nat renaming le_max_right->Aau,le_max_left->Aav
open List renaming all_eq_true->Aaw,mem_cons->Aay
open Bool renaming or_eq_true->Aax,true_and->Aaz
namespace Go.HH
open Go
def HU (c c':Cn):Prop:=∀ f args bx r,c f args bx=some r->c' f args bx=some r
variable {C:Cfg}
theorem UQ {c c':Cn} (h:HU c c') {f:FuncId} {args:List PV} {bx:List PBox} {r:CR×List PBox} (e:Ai C c f args bx=some r):Ai C c' f args bx=some r:=by
 unfold Ai at e |-;split
 · rename_i hc
   rw [if_pos hc] at e;cases hx:c f args bx with
   | none=>rw [hx] at e;cases e
   | some x=>rw [hx] at e;rw [h _ _ _ _ hx];exact e
 · rename_i hc
   rw [if_neg hc] at e;cases hx:c f args [] with
   | none=>rw [hx] at e;cases e
   | some x=>rw [hx] at e;rw [h _ _ _ _ hx];exact e
theorem UR {c c':Cn} (h:HU c c') {draw:Bool} {al:List (Nat×Loc)} {o:Oper} {st:St} {r:OpR} (e:Bq C c draw al o st=some r):Bq C c' draw al o st=some r:=by
 unfold Bq at e |-;split at e <;> try exact e
 all_goals (split at e <;> try exact e)
 rename_i k vs hcal;split at e
 · cases e
 · rename_i hd
   rw [if_neg hd];cases Cr:JS C _ _ k vs al st.bx with
   | some m=>
    rw [Cr] at e;simp only at e |-;cases hx:Ai C c k vs (st.bx.take m) with
    | none=>rw [hx] at e;cases e
    | some x=>
     rw [hx] at e;simp only [UQ h hx];exact e
   | none=>
    rw [Cr] at e;simp only at e |-;cases hx:Ai C c k vs st.bx with
    | none=>rw [hx] at e;cases e
    | some x=>
     rw [hx] at e;simp only [UQ h hx];exact e
theorem G5 {c c':Cn} (h:HU c c') {draw:Bool} {ops:Array Oper}:∀ (l:List Oper) (al:List (Nat×Loc)) (st:St) (r:Ex×St),evOps C c draw ops l al st=some r->evOps C c' draw ops l al st=some r
 | [],_,_,_,e=>e
 | o :: rest,al,st,r,e=>by
  unfold evOps at e |-;split at e
  · cases e
  · exact G5 h rest _ _ _ e
  · cases hx:Bq C c draw al o st with
    | none=>rw [hx] at e;cases e
    | some x=>
     rw [hx] at e;rw [UR h hx];cases x with
     | next st' al'=>exact G5 h rest _ _ _ e
     | pan v st'=>exact e
def XR (a b:Code->St->Option (Ex×St)):Prop:=∀ c st r,a c st=some r->b c st=some r
theorem iN {a b a' b':Code->St->Option (Ex×St)} (h:XR a b) (h':XR a' b'):HU (GC C a a') (GC C b b'):=by
 intro f args bx r e;unfold GC at e |-;split at e
 · exact e
 · split at e
   · cases e
   · split at e
     · cases e
     · rename_i fn _ _ c _
       split at e
       · rename_i hc
         rw [if_pos hc];cases hx:a c ⟨args,bx⟩ with
         | none=>rw [hx] at e;cases e
         | some x=>rw [hx] at e;rw [h _ _ _ hx];exact e
       · rename_i hc
         rw [if_neg hc];split at e
         · rename_i Tf
           rw [if_pos Tf];cases hx:a' c ⟨args,bx⟩ with
           | none=>rw [hx] at e;cases e
           | some x=>rw [hx] at e;rw [h' _ _ _ hx];exact e
         · cases e
theorem fc {a b:Code->St->Option (Ex×St)} (h:XR a b) {k:Cat} {args:List PV} {bx:List PBox} {r:CR×List PBox} (e:Ev k a args bx=some r):Ev k b args bx=some r:=by
 unfold Ev at e |-;cases EC:k.pre args bx with
 | none=>rw [EC] at e;cases e
 | some st=>
  rw [EC] at e;simp only at e |-;cases hx:a k.code st with
  | none=>rw [hx] at e;cases e
  | some x=>rw [hx] at e;rw [h _ _ _ hx];exact e
theorem Kj {a b a' b':Code->St->Option (Ex×St)} (h:XR a b) (h':XR a' b'):HU (Ep C a a') (Ep C b b'):=by
 intro f args bx r e;unfold Ep at e |-;split at e
 · exact e
 · split at e
   · exact fc h e
   · exact iN h h' _ _ _ _ e
theorem Kk {c c':Cn} (h:HU c c') {ops:Array Oper} {l:List Oper} {st:St} {r:Ex×St} (e:DL (evOps C c false ops l [] st)=some r):DL (evOps C c' false ops l [] st)=some r:=by
 cases hx:evOps C c false ops l [] st with
 | none=>rw [hx] at e;cases e
 | some x=>rw [G5 h _ _ _ _ hx,<- hx];exact e
theorem Z8 {c c':Cn} (h:HU c c') {ops:Array Oper} {st:St} {r:Ex×St} (e:drawAll C c ops st=some r):drawAll C c' ops st=some r:=by
 unfold drawAll at e |-;split at e
 · cases e
 · rename_i l ls hl
   cases hx:DL (evOps C c false ops (AR ops l) [] st) with
   | none=>rw [hx] at e;cases e
   | some x=>
    rw [hx] at e;simp only at e;split at e
    · rename_i ha
      injection e with e
      subst e;simp only [Kk h hx];rw [if_pos];rw [Aaw] at ha |-;intro l' D3;have hb:=ha l' D3;rw [Aax] at hb |-;rcases hb with hb | hb
      · have:=XP hb
        rw [Kk h this];exact .inl (QZ _)
      · obtain ⟨s,e1,e2,e3⟩:=XQ hb
        rw [Kk h e1];obtain ⟨x1,x2⟩:=x;simp only at e2;subst e2;exact .inr (cR e3)
    · cases e
theorem XS {c c':Cn} (h:HU c c') {ops:Array Oper} {st:St} {r:Ex×St} (e:G4 C c ops st=some r):G4 C c' ops st=some r:=by
 unfold G4 at e |-;split
 · rename_i hc
   rw [if_pos hc] at e;exact G5 h _ _ _ _ e
 · rename_i hc
   rw [if_neg hc] at e;exact Z8 h e
theorem MC:∀ n br,XR (BW C n br) (BW C (n+1) br)
 | 0,br=>fun c st r e=>by simp [BW] at e
 | n+1,br=>fun c st r e=>by
  have ih:=MC n br;have ihc:HU (Ep C (BW C n false) (BW C n true)) (Ep C (BW C (n+1) false) (BW C (n+1) true)):=Kj (MC n false) (MC n true);unfold BW at e |-;cases c with
  | skip=>exact e
  | label _=>exact e
  | region i ops draw=>
   simp only at e |-;split at e
   · rename_i hb
     rw [if_pos hb];exact XS ihc e
   · rename_i hb
     rw [if_neg hb];exact G5 ihc _ _ _ _ e
  | seq a b=>
   simp only at e |-;cases hx:BW C n br a st with
   | none=>rw [hx] at e;cases e
   | some x=>
    rw [hx] at e;rw [ih _ _ _ hx];obtain ⟨x,st'⟩:=x;cases x <;> simp only at e |-
    · exact ih _ _ _ e
    all_goals exact e
  | cond o a b=>
   simp only at e |-;split at e
   · exact ih _ _ _ e
   · cases e
  | block id b=>
   simp only at e |-;cases hx:BW C n br b st with
   | none=>rw [hx] at e;cases e
   | some x=>rw [hx] at e;rw [ih _ _ _ hx];exact e
  | loop b=>
   simp only at e |-;cases hx:BW C n br b st with
   | none=>rw [hx] at e;cases e
   | some x=>
    rw [hx] at e;rw [ih _ _ _ hx];obtain ⟨x,st'⟩:=x;cases x <;> simp only at e |-
    · exact ih _ _ _ e
    all_goals exact e
  | exit id=>exact e
  | ret=>exact e
  | _=>simp at e
theorem HF {n m:Nat} (h:n<=m) (br:Bool):XR (BW C n br) (BW C m br):=by
 induction h with
 | refl=>exact fun _ _ _ e=>e
 | step _ ih=>exact fun c st r e=>MC _ _ _ _ _ (ih _ _ _ e)
open Classical in
noncomputable def G6 (C:Cfg) (br:Bool) (c:Code) (st:St):Option (Ex×St):=if h:∃ r,∃ n,BW C n br c st=some r then some h.choose else none
noncomputable def Cf (C:Cfg):Code->St->Option (Ex×St):=G6 C false
noncomputable def Lp (C:Cfg):Code->St->Option (Ex×St):=G6 C true
noncomputable def Ad (C:Cfg):Cn:=Ep C (Cf C) (Lp C)
theorem BA {br:Bool} {c:Code} {st:St} {r:Ex×St}:G6 C br c st=some r↔∃ n,BW C n br c st=some r:=by
 unfold G6;split
 · rename_i h
   constructor
   · intro e;injection e with e;subst e;exact h.choose_spec
   · intro ⟨n,hn⟩
     obtain ⟨m,hm⟩:=h.choose_spec;have a:=HF (Aav n m) br _ _ _ hn;have b:=HF (Aau n m) br _ _ _ hm;rw [<- b,<- a]
 · rename_i h
   exact ⟨fun e=>(by cases e),fun hn=>absurd (Exists.intro r hn) h⟩
theorem Db (n:Nat) (br:Bool):XR (BW C n br) (G6 C br):=fun _ _ _ e=>BA.2 ⟨n,e⟩
theorem ff {f:FuncId} {args:List PV} {bx:List PBox} {r:CR×List PBox} (e:GC C (Cf C) (Lp C) f args bx=some r):∃ n,GC C (BW C n false) (BW C n true) f args bx=some r:=by
 unfold GC at e;split at e
 · rename_i hp
   exact ⟨0,by unfold GC;rw [hp];exact e⟩
 · split at e
   · cases e
   · split at e
     · cases e
     · rename_i hp _ fn hf _ c hb
       split at e
       · rename_i hc
         cases hx:Cf C c ⟨args,bx⟩ with
         | none=>rw [hx] at e;cases e
         | some x=>
          obtain ⟨n,hn⟩:=BA.1 hx;refine ⟨n,?_⟩;rw [hx] at e;unfold GC;simp only [hp,hf,hb];rw [if_pos hc,hn];exact e
       · rename_i hc
         split at e
         · rename_i Tf
           cases hx:Lp C c ⟨args,bx⟩ with
           | none=>rw [hx] at e;cases e
           | some x=>
            obtain ⟨n,hn⟩:=BA.1 hx;refine ⟨n,?_⟩;rw [hx] at e;unfold GC;simp only [hp,hf,hb];rw [if_neg hc,if_pos Tf,hn];exact e
         · cases e
theorem ES {f:FuncId} {args:List PV} {bx:List PBox} {r:CR×List PBox}:Ad C f args bx=some r↔∃ n,Fb C n f args bx=some r:=by
 constructor
 · intro e
   unfold Ad Ep at e;split at e
   · rename_i hp
     exact ⟨0,by unfold Fb Ep;rw [hp];exact e⟩
   · rename_i hp
     split at e
     · rename_i k hk
       unfold Ev at e;split at e
       · rename_i st EC
         cases hx:Cf C k.code st with
         | none=>rw [hx] at e;cases e
         | some x=>
          obtain ⟨n,hn⟩:=BA.1 hx;rw [hx] at e;refine ⟨n,?_⟩;unfold Fb Ep Ev;simp only [hp,hk,EC];rw [hn];exact e
       · cases e
     · rename_i hk
       obtain ⟨n,hn⟩:=ff e;exact ⟨n,by unfold Fb Ep;simp only [hp,hk];exact hn⟩
 · intro ⟨n,hn⟩
   exact Kj (Db n false) (Db n true) _ _ _ _ hn
theorem O9 {k:FuncId} {vs:List PV} {bx:List PBox} {x:CR×List PBox} (hx:Ai C (Ad C) k vs bx=some x):∃ n,Ai C (Fb C n) k vs bx=some x:=by
 unfold Ai at hx |-;by_cases hb:C.heap k=true\/Ak vs=false
 · have eH:(C.heap k || !Ak vs)=true:=by rcases hb with h | h <;> simp [h]
   simp only [eH,if_true] at hx |-;cases hy:Ad C k vs bx with
   | none=>rw [hy] at hx;cases hx
   | some y=>rw [hy] at hx;obtain ⟨n,hn⟩:=ES.1 hy;exact ⟨n,by rw [hn];exact hx⟩
 · have eH:¬ (C.heap k || !Ak vs)=true:=by simpa using hb
   simp only [if_neg eH] at hx |-;cases hy:Ad C k vs [] with
   | none=>rw [hy] at hx;cases hx
   | some y=>rw [hy] at hx;obtain ⟨n,hn⟩:=ES.1 hy;exact ⟨n,by rw [hn];exact hx⟩
theorem XT {draw:Bool} {al:List (Nat×Loc)} {o:Oper} {st:St} {r:OpR} (e:Bq C (Ad C) draw al o st=some r):∃ n,Bq C (Fb C n) draw al o st=some r:=by
 unfold Bq at e |-;split at e <;> try exact ⟨0,by simp only [*]⟩
 all_goals try (split at e <;> exact ⟨0,by simp only [*]⟩)
 split at e
 · rename_i k vs hcal
   split at e
   · cases e
   · rename_i hd
     cases Cr:JS C _ _ k vs al st.bx with
     | some m=>
      rw [Cr] at e;simp only at e;cases hx:Ai C (Ad C) k vs (st.bx.take m) with
      | none=>rw [hx] at e;cases e
      | some x=>
       rw [hx] at e;obtain ⟨n,hn⟩:=O9 hx;exact ⟨n,by rw [if_neg hd];simp only [Cr,hn];exact e⟩
     | none=>
      rw [Cr] at e;simp only at e;cases hx:Ai C (Ad C) k vs st.bx with
      | none=>rw [hx] at e;cases e
      | some x=>
       rw [hx] at e;obtain ⟨n,hn⟩:=O9 hx;exact ⟨n,by rw [if_neg hd];simp only [Cr,hn];exact e⟩
 · cases e
theorem MD {n m:Nat} (h:n<=m):HU (Fb C n) (Fb C m):=Kj (HF h false) (HF h true)
theorem G7 {draw:Bool} {ops:Array Oper}:∀ (l:List Oper) (al:List (Nat×Loc)) (st:St) (r:Ex×St),evOps C (Ad C) draw ops l al st=some r->∃ n,evOps C (Fb C n) draw ops l al st=some r
 | [],_,_,_,e=>⟨0,e⟩
 | o :: rest,al,st,r,e=>by
  unfold evOps at e;split at e
  · cases e
  · rename_i hw
    obtain ⟨n,hn⟩:=G7 rest _ _ _ e;exact ⟨n,by unfold evOps;rw [hw];exact hn⟩
  · rename_i hw
    cases hx:Bq C (Ad C) draw al o st with
    | none=>rw [hx] at e;cases e
    | some x=>
     rw [hx] at e;obtain ⟨n,hn⟩:=XT hx;cases x with
     | next st' al'=>
      obtain ⟨m,hm⟩:=G7 rest _ _ _ e;refine ⟨max n m,?_⟩;unfold evOps;rw [hw];simp only [UR (MD (Aav n m)) hn];exact G5 (MD (Aau n m)) _ _ _ _ hm
     | pan v st'=>
      exact ⟨n,by unfold evOps;rw [hw];simp only [hn];exact e⟩
theorem Z9 {ops:Array Oper} {l:List Oper} {st:St} {r:Ex×St} (e:DL (evOps C (Ad C) false ops l [] st)=some r):∃ n,DL (evOps C (Fb C n) false ops l [] st)=some r:=by
 cases hx:evOps C (Ad C) false ops l [] st with
 | none=>rw [hx] at e;cases e
 | some x=>
  obtain ⟨n,hn⟩:=G7 _ _ _ _ hx;exact ⟨n,by rw [hn,<- hx];exact e⟩
theorem US {ops:Array Oper} {st:St} {F:List Nat->Ex×St}:∀ (ls:List (List Nat)),(∀ l ∈ ls,DL (evOps C (Ad C) false ops (AR ops l) [] st)=some (F l))->∃ n,∀ l ∈ ls,DL (evOps C (Fb C n) false ops (AR ops l) [] st)=some (F l)
 | [],_=>⟨0,fun l h=>by simp at h⟩
 | l :: ls,h=>by
  obtain ⟨n,hn⟩:=Z9 (h l (by simp));obtain ⟨m,hm⟩:=US ls (fun l hl=>h l (by simp [hl]));refine ⟨max n m,fun l' D3=>?_⟩;rcases Aay.1 D3 with rfl | D3
  · exact Kk (MD (Aav n m)) hn
  · exact Kk (MD (Aau n m)) (hm l' D3)
def Q0 (n:Nat) (x:Option (Ex×St)) (r:Ex×St):Prop:=x=some r\/∃ s,x=some (.normal,s)/\r.1=.normal/\Eqv n s r.2
theorem Q0.all {n:Nat} {x:Option (Ex×St)} {r:Ex×St}:(UP x r || eZ n x r)=true↔Q0 n x r:=by
 rw [Aax];constructor
 · rintro (h | h)
   · exact .inl (XP h)
   · exact .inr (XQ h)
 · rintro (h | ⟨s,h,h2,h3⟩)
   · rw [h];exact .inl (QZ _)
   · obtain ⟨r1,r2⟩:=r
     simp only at h2 h3;subst h2;rw [h];exact .inr (cR h3)
theorem Gi {call:Cn} {ops:Array Oper} {st:St} {r:Ex×St}:drawAll C call ops st=some r↔∃ l0 ls,BO ops=l0 :: ls/\DL (evOps C call false ops (AR ops l0) [] st)=some r/\∀ l ∈ ls,Q0 st.bx.length (DL (evOps C call false ops (AR ops l) [] st)) r:=by
 unfold drawAll;cases ho:BO ops with
 | nil=>simp
 | cons l ls=>
  dsimp only;constructor
  · intro e
    cases hx:DL (evOps C call false ops (AR ops l) [] st) with
    | none=>rw [hx] at e;cases e
    | some x=>
     rw [hx] at e;simp only at e;split at e
     · rename_i ha
       injection e with e
       subst e;rw [Aaw] at ha;exact ⟨l,ls,rfl,hx,fun l' D3=>Q0.all.1 (ha l' D3)⟩
     · cases e
  · rintro ⟨l0,ls0,e,h1,h2⟩
    injection e with e1 e2
    subst e1 e2;rw [h1];simp only;rw [if_pos];rw [Aaw];exact fun l' D3=>Q0.all.2 (h2 l' D3)
theorem AV {call:Cn} {ops:Array Oper} {st:St} {r:Ex×St}:True/\(BO ops≠[]/\(∀ l ∈ BO ops,DL (evOps C call false ops (AR ops l) [] st)=some r)->drawAll C call ops st=some r):=by
 refine ⟨trivial,fun ⟨h1,h2⟩=>Gi.2 ?_⟩;cases ho:BO ops with
 | nil=>exact absurd ho h1
 | cons l ls=>
  rw [ho] at h2;exact ⟨l,ls,rfl,h2 l (by simp),fun l' D3=>.inl (h2 l' (by simp [D3]))⟩
theorem VW {ops:Array Oper} {st:St} {r:Ex×St} (e:drawAll C (Ad C) ops st=some r):∃ n,drawAll C (Fb C n) ops st=some r:=by
 obtain ⟨l0,ls,h0,h1,h2⟩:=Gi.1 e
 have hs:∀ l ∈ l0 :: ls,DL (evOps C (Ad C) false ops (AR ops l) [] st)=some ((DL (evOps C (Ad C) false ops (AR ops l) [] st)).getD r):=fun l hl=>by
  rcases Aay.1 hl with rfl | hl
  · rw [h1];rfl
  · rcases h2 l hl with h | ⟨s,h,_⟩
    · rw [h];rfl
    · rw [h];rfl
 obtain ⟨n,hn⟩:=US _ hs;refine ⟨n,Gi.2 ⟨l0,ls,h0,?_,fun l hl=>?_⟩⟩
 · rw [hn l0 (by simp),h1];rfl
 · rw [hn l (by simp [hl])]
   rw [<- hs l (by simp [hl])];exact h2 l hl
theorem Z' {ops:Array Oper} {st:St} {r:Ex×St} (e:G4 C (Ad C) ops st=some r):∃ n,G4 C (Fb C n) ops st=some r:=by
 unfold G4 at e |-;split
 · rename_i hc
   rw [if_pos hc] at e;exact G7 _ _ _ _ e
 · rename_i hc
   rw [if_neg hc] at e;exact VW e
theorem A8 {call:Cn} {ops:Array Oper} {st:St} (h:CM C ops=false):G4 C call ops st=drawAll C call ops st:=by unfold G4;rw [if_neg (by rw [h];decide)]
theorem ME {α:Type} {a b:Option α} (h:∀ r,a=some r->b=some r) (k:∀ r,b=some r->a=some r):a=b:=by
 cases a with
 | some x=>exact (h x rfl).symm
 | none=>cases b with
  | none=>rfl
  | some y=>exact k y rfl
theorem UU (br:Bool) (st:St):G6 C br .skip st=some (.normal,st):=BA.2 ⟨1,rfl⟩
theorem UW (br:Bool) (i) (st:St):G6 C br (.exit i) st=some (.exit i,st):=BA.2 ⟨1,rfl⟩
theorem XU (br:Bool) (st:St):G6 C br .ret st=some (.ret,st):=BA.2 ⟨1,rfl⟩
theorem Kl (br:Bool) (i) (ops:Array Oper) (draw:Bool) (st:St):G6 C br (.region i ops draw) st=if br && draw then G4 C (Ad C) ops st else evOps C (Ad C) draw ops ops.toList [] st:=by
 refine ME (fun r h=>?_) (fun r h=>?_)
 · obtain ⟨n,hn⟩:=BA.1 h
   cases n with
   | zero=>simp [BW] at hn
   | succ n=>
    unfold BW at hn;simp only at hn;split at hn
    · rename_i hb
      rw [if_pos hb];exact XS (Kj (Db n false) (Db n true)) hn
    · rename_i hb
      rw [if_neg hb];exact G5 (Kj (Db n false) (Db n true)) _ _ _ _ hn
 · split at h
   · rename_i hb
     obtain ⟨n,hn⟩:=Z' h;exact BA.2 ⟨n+1,by unfold BW;simp only;rw [if_pos hb];exact hn⟩
   · rename_i hb
     obtain ⟨n,hn⟩:=G7 _ _ _ _ h;exact BA.2 ⟨n+1,by unfold BW;simp only;rw [if_neg hb];exact hn⟩
def D9 (r:Option (Ex×St)) (k:St->Option (Ex×St)):Option (Ex×St):=
 match r with
 | some (.normal,st')=>k st'
 | r=>r
theorem XV (br:Bool) (a b:Code) (st:St):G6 C br (.seq a b) st=D9 (G6 C br a st) (G6 C br b):=by
 refine ME (fun r h=>?_) (fun r h=>?_)
 · obtain ⟨n,hn⟩:=BA.1 h
   cases n with
   | zero=>simp [BW] at hn
   | succ n=>
    unfold BW at hn;simp only at hn;cases hx:BW C n br a st with
    | none=>rw [hx] at hn;cases hn
    | some x=>
     rw [hx] at hn;rw [Db n br _ _ _ hx];obtain ⟨x,st'⟩:=x;cases x <;> simp only [D9] at hn |-
     · exact Db n br _ _ _ hn
     all_goals exact hn
 · cases hx:G6 C br a st with
   | none=>rw [hx] at h;cases h
   | some x=>
    rw [hx] at h;obtain ⟨n,hn⟩:=BA.1 hx;obtain ⟨x,st'⟩:=x;cases x with
    | normal=>
     simp only [D9] at h;obtain ⟨m,hm⟩:=BA.1 h;refine BA.2 ⟨max n m+1,?_⟩;unfold BW;simp only [HF (Aav n m) br _ _ _ hn];exact HF (Aau n m) br _ _ _ hm
    | _=>exact BA.2 ⟨n+1,by unfold BW;simp only [hn];exact h⟩
theorem UX (br:Bool) (o:Operand) (a b:Code) (st:St):G6 C br (.cond o a b) st=match opd C st.env o with
 | .bool t=>if t then G6 C br a st else G6 C br b st
 | _=>none:=by
 refine ME (fun r h=>?_) (fun r h=>?_)
 · obtain ⟨n,hn⟩:=BA.1 h
   cases n with
   | zero=>simp [BW] at hn
   | succ n=>
    unfold BW at hn;simp only at hn;split at hn
    · rename_i t ht
      rw [ht];cases t <;> exact Db n br _ _ _ hn
    · cases hn
 · split at h
   · rename_i t ht
     cases t
     all_goals
      obtain ⟨n,hn⟩:=BA.1 h;exact BA.2 ⟨n+1,by unfold BW;simp only [ht];exact hn⟩
   · cases h
def EM (id:Nat) (r:Option (Ex×St)):Option (Ex×St):=
 match r with
 | some (.exit id',st')=>if id'=id then some (.normal,st') else some (.exit id',st')
 | r=>r
theorem Q1 (br:Bool) (id) (b:Code) (st:St):G6 C br (.block id b) st=EM id (G6 C br b st):=by
 refine ME (fun r h=>?_) (fun r h=>?_)
 · obtain ⟨n,hn⟩:=BA.1 h
   cases n with
   | zero=>simp [BW] at hn
   | succ n=>
    unfold BW at hn;simp only at hn;cases hx:BW C n br b st with
    | none=>rw [hx] at hn;cases hn
    | some x=>rw [hx] at hn;rw [Db n br _ _ _ hx];exact hn
 · cases hx:G6 C br b st with
   | none=>rw [hx] at h;cases h
   | some x=>
    rw [hx] at h;obtain ⟨n,hn⟩:=BA.1 hx;exact BA.2 ⟨n+1,by unfold BW;simp only [hn];exact h⟩
theorem UY (br:Bool) (b:Code) (st:St):G6 C br (.loop b) st=D9 (G6 C br b st) (G6 C br (.loop b)):=by
 refine ME (fun r h=>?_) (fun r h=>?_)
 · obtain ⟨n,hn⟩:=BA.1 h
   cases n with
   | zero=>simp [BW] at hn
   | succ n=>
    unfold BW at hn;simp only at hn;cases hx:BW C n br b st with
    | none=>rw [hx] at hn;cases hn
    | some x=>
     rw [hx] at hn;rw [Db n br _ _ _ hx];obtain ⟨x,st'⟩:=x;cases x <;> simp only [D9] at hn |-
     · exact Db n br _ _ _ hn
     all_goals exact hn
 · cases hx:G6 C br b st with
   | none=>rw [hx] at h;cases h
   | some x=>
    rw [hx] at h;obtain ⟨n,hn⟩:=BA.1 hx;obtain ⟨x,st'⟩:=x;cases x with
    | normal=>
     simp only [D9] at h;obtain ⟨m,hm⟩:=BA.1 h;refine BA.2 ⟨max n m+1,?_⟩;unfold BW;simp only [HF (Aav n m) br _ _ _ hn];exact HF (Aau n m) br _ _ _ hm
    | _=>exact BA.2 ⟨n+1,by unfold BW;simp only [hn];exact h⟩
theorem XW (st:St):Cf C .skip st=some (.normal,st):=UU false st
theorem XX (i) (st:St):Cf C (.exit i) st=some (.exit i,st):=UW false i st
theorem cS (st:St):Cf C .ret st=some (.ret,st):=XU false st
theorem Q2 (i) (ops:Array Oper) (draw:Bool) (st:St):Cf C (.region i ops draw) st=evOps C (Ad C) draw ops ops.toList [] st:=Kl false i ops draw st
theorem cT (a b:Code) (st:St):Cf C (.seq a b) st=D9 (Cf C a st) (Cf C b):=XV false a b st
theorem iO (o:Operand) (a b:Code) (st:St):Cf C (.cond o a b) st=match opd C st.env o with
 | .bool t=>if t then Cf C a st else Cf C b st
 | _=>none:=UX false o a b st
theorem UZ (id) (b:Code) (st:St):Cf C (.block id b) st=EM id (Cf C b st):=Q1 false id b st
theorem iP (b:Code) (st:St):Cf C (.loop b) st=D9 (Cf C b st) (Cf C (.loop b)):=UY false b st
def Fin:=Option (Ex×St)->Option (CR×List PBox)
def CD (C:Cfg) (rs:List ResultVar):Option (Ex×St)->Option (CR×List PBox)
 | some (.pan v,st)=>some (.pan v,st.bx)
 | some (.exit _,_)=>none
 | some (_,st)=>match Cp C st rs with
  | some vs=>some (.ret (Iq vs),st.bx)
  | none=>none
 | none=>none
theorem Ah {f:FuncId} {fn:Func} {c:Code} {args:List PV} {bx:List PBox} (hh:C.hprim f=none) (hp:C.prim f=none) (hf:C.P.funcs[f]?=some fn) (hb:fn.body=some c)
 (EB:Be C fn c=true) (hn:args.length<=fn.ntmps) (hk:C.cat f=none:=by rfl):Ad C f args bx=CD C fn.results.toList (Cf C c ⟨args,bx⟩):=by
 unfold Ad Ep GC;simp only [hh,hp,hk,hf,hb,EB,Aaz,decide_eq_true hn,if_true];cases Cf C c ⟨args,bx⟩ with
 | none=>rfl
 | some x=>
  obtain ⟨x,st⟩:=x;cases x <;> rfl
theorem CN {f:FuncId} {fn:Func} {c:Code} {args:List PV} {bx:List PBox} (hh:C.hprim f=none) (hp:C.prim f=none) (hf:C.P.funcs[f]?=some fn) (hb:fn.body=some c)
 (G0:Be C fn c=false) (EB:JG C fn c=true) (hn:args.length<=fn.ntmps) (hk:C.cat f=none:=by rfl):Ad C f args bx=CD C fn.results.toList (Lp C c ⟨args,bx⟩):=by
 unfold Ad Ep GC;simp only [hh,hp,hk,hf,hb,G0,EB,Aaz,Bool.false_and,Bool.false_eq_true,if_false,decide_eq_true hn,if_true];cases Lp C c ⟨args,bx⟩ with
 | none=>rfl
 | some x=>
  obtain ⟨x,st⟩:=x;cases x <;> rfl
theorem Ld {f:FuncId} {k:Cat} {args:List PV} {bx:List PBox} (hh:C.hprim f=none) (hk:C.cat f=some k):Ad C f args bx=Ev k (Cf C) args bx:=by
 unfold Ad Ep;simp only [hh,hk]
end Go.HH
