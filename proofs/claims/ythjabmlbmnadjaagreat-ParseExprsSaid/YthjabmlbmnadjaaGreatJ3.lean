/-
  What the law needs, packed: Lim.
-/
import Derived.Test.YthjabmlbmnadjaaGreatJ2
open Nat renaming le_max_right->yW,le_max_left->yX
open List renaming all_eq_true->yY,mem_cons->yZ
open Bool renaming true_and->y0
namespace Go.HH
open Go
def IP (c c':C4):Prop:=∀ f args bx r,c f args bx=some r->c' f args bx=some r
variable {C:Cfg}
theorem VX {c c':C4} (h:IP c c') {f:FuncId} {args:List PV} {bx:List PBox} {r:CR×List PBox} (e:Ak C c f args bx=some r):Ak C c' f args bx=some r:=by
 unfold Ak at e |-;split
 · rename_i hc
   rw [if_pos hc] at e;cases hx:c f args bx with
   | none=>rw [hx] at e;cases e
   | some x=>rw [hx] at e;rw [h _ _ _ _ hx];exact e
 · rename_i hc
   rw [if_neg hc] at e;cases hx:c f args [] with
   | none=>rw [hx] at e;cases e
   | some x=>rw [hx] at e;rw [h _ _ _ _ hx];exact e
theorem VY {c c':C4} (h:IP c c') {draw:Bool} {al:List (Nat×Loc)} {o:Oper} {st:St} {r:OpR} (e:BR C c draw al o st=some r):BR C c' draw al o st=some r:=by
 unfold BR at e |-;split at e <;> try exact e
 all_goals (split at e <;> try exact e)
 rename_i k vs hcal;split at e
 · cases e
 · rename_i hd
   rw [if_neg hd];cases Cz:JJ C _ _ k vs al st.bx with
   | some m=>
    rw [Cz] at e;simp only at e |-;cases hx:Ak C c k vs (st.bx.take m) with
    | none=>rw [hx] at e;cases e
    | some x=>
     rw [hx] at e;simp only [VX h hx];exact e
   | none=>
    rw [Cz] at e;simp only at e |-;cases hx:Ak C c k vs st.bx with
    | none=>rw [hx] at e;cases e
    | some x=>
     rw [hx] at e;simp only [VX h hx];exact e
theorem HT {c c':C4} (h:IP c c') {draw:Bool} {ops:Array Oper}:∀ (l:List Oper) (al:List (Nat×Loc)) (st:St) (r:Ex×St),evOps C c draw ops l al st=some r->evOps C c' draw ops l al st=some r
 | [],_,_,_,e=>e
 | o :: rest,al,st,r,e=>by
  unfold evOps at e |-;split at e
  · cases e
  · exact HT h rest _ _ _ e
  · cases hx:BR C c draw al o st with
    | none=>rw [hx] at e;cases e
    | some x=>
     rw [hx] at e;rw [VY h hx];cases x with
     | next st' al'=>exact HT h rest _ _ _ e
     | pan v st'=>exact e
def YN (a b:Code->St->Option (Ex×St)):Prop:=∀ c st r,a c st=some r->b c st=some r
theorem ja {a b a' b':Code->St->Option (Ex×St)} (h:YN a b) (h':YN a' b'):IP (HS C a a') (HS C b b'):=by
 intro f args bx r e;unfold HS at e |-;split at e
 · exact e
 · split at e
   · cases e
   · split at e
     · cases e
     · rename_i fn _ _ c _
       split at e
       · rename_i hc
         rw [if_pos hc];cases hx:a c ⟨args,bx⟩ with
         | none=>rw [hx] at e;cases e
         | some x=>rw [hx] at e;rw [h _ _ _ hx];exact e
       · rename_i hc
         rw [if_neg hc];split at e
         · rename_i QC
           rw [if_pos QC];cases hx:a' c ⟨args,bx⟩ with
           | none=>rw [hx] at e;cases e
           | some x=>rw [hx] at e;rw [h' _ _ _ hx];exact e
         · cases e
theorem fK {a b:Code->St->Option (Ex×St)} (h:YN a b) {k:Cat} {args:List PV} {bx:List PBox} {r:CR×List PBox} (e:Ea k a args bx=some r):Ea k b args bx=some r:=by
 unfold Ea at e |-;cases Fq:k.pre args bx with
 | none=>rw [Fq] at e;cases e
 | some st=>
  rw [Fq] at e;simp only at e |-;cases hx:a k.code st with
  | none=>rw [hx] at e;cases e
  | some x=>rw [hx] at e;rw [h _ _ _ hx];exact e
theorem K6 {a b a' b':Code->St->Option (Ex×St)} (h:YN a b) (h':YN a' b'):IP (Fu C a a') (Fu C b b'):=by
 intro f args bx r e;unfold Fu at e |-;split at e
 · exact e
 · split at e
   · exact fK h e
   · exact ja h h' _ _ _ _ e
theorem N' {c c':C4} (h:IP c c') {ops:Array Oper} {l:List Oper} {st:St} {r:Ex×St} (e:Gs (evOps C c false ops l [] st)=some r):Gs (evOps C c' false ops l [] st)=some r:=by
 cases hx:evOps C c false ops l [] st with
 | none=>rw [hx] at e;cases e
 | some x=>rw [HT h _ _ _ _ hx,<- hx];exact e
theorem bC {c c':C4} (h:IP c c') {ops:Array Oper} {st:St} {r:Ex×St} (e:drawAll C c ops st=some r):drawAll C c' ops st=some r:=by
 unfold drawAll at e |-;split at e
 · cases e
 · rename_i l ls hl
   cases hx:Gs (evOps C c false ops (A' ops l) [] st) with
   | none=>rw [hx] at e;cases e
   | some x=>
    rw [hx] at e;simp only at e;split at e
    · rename_i ha
      injection e with e
      subst e;simp only [N' h hx];rw [if_pos];rw [yY] at ha |-;intro l' FU;have:=YM (ha l' FU);rw [N' h this];exact RU _
    · cases e
theorem YO {c c':C4} (h:IP c c') {ops:Array Oper} {st:St} {r:Ex×St} (e:GX C c ops st=some r):GX C c' ops st=some r:=by
 unfold GX at e |-;split
 · rename_i hc
   rw [if_pos hc] at e;exact HT h _ _ _ _ e
 · rename_i hc
   rw [if_neg hc] at e;exact bC h e
theorem Oa:∀ n br,YN (Cs C n br) (Cs C (n+1) br)
 | 0,br=>fun c st r e=>by simp [Cs] at e
 | n+1,br=>fun c st r e=>by
  have ih:=Oa n br;have ihc:IP (Fu C (Cs C n false) (Cs C n true)) (Fu C (Cs C (n+1) false) (Cs C (n+1) true)):=K6 (Oa n false) (Oa n true);unfold Cs at e |-;cases c with
  | skip=>exact e
  | label _=>exact e
  | region i ops draw=>
   simp only at e |-;split at e
   · rename_i hb
     rw [if_pos hb];exact YO ihc e
   · rename_i hb
     rw [if_neg hb];exact HT ihc _ _ _ _ e
  | seq a b=>
   simp only at e |-;cases hx:Cs C n br a st with
   | none=>rw [hx] at e;cases e
   | some x=>
    rw [hx] at e;rw [ih _ _ _ hx];obtain ⟨x,st'⟩:=x;cases x <;> simp only at e |-
    · exact ih _ _ _ e
    all_goals exact e
  | cond o a b=>
   simp only at e |-;split at e
   · exact ih _ _ _ e
   · cases e
  | block id b=>
   simp only at e |-;cases hx:Cs C n br b st with
   | none=>rw [hx] at e;cases e
   | some x=>rw [hx] at e;rw [ih _ _ _ hx];exact e
  | loop b=>
   simp only at e |-;cases hx:Cs C n br b st with
   | none=>rw [hx] at e;cases e
   | some x=>
    rw [hx] at e;rw [ih _ _ _ hx];obtain ⟨x,st'⟩:=x;cases x <;> simp only at e |-
    · exact ih _ _ _ e
    all_goals exact e
  | exit id=>exact e
  | ret=>exact e
  | _=>simp at e
theorem Iw {n m:Nat} (h:n<=m) (br:Bool):YN (Cs C n br) (Cs C m br):=by
 induction h with
 | refl=>exact fun _ _ _ e=>e
 | step _ ih=>exact fun c st r e=>Oa _ _ _ _ _ (ih _ _ _ e)
open Classical in
noncomputable def Ht (C:Cfg) (br:Bool) (c:Code) (st:St):Option (Ex×St):=if h:∃ r,∃ n,Cs C n br c st=some r then some h.choose else none
noncomputable def Cp (C:Cfg):Code->St->Option (Ex×St):=Ht C false
noncomputable def Hg (C:Cfg):Code->St->Option (Ex×St):=Ht C true
noncomputable def Ae (C:Cfg):C4:=Fu C (Cp C) (Hg C)
theorem B3 {br:Bool} {c:Code} {st:St} {r:Ex×St}:Ht C br c st=some r↔∃ n,Cs C n br c st=some r:=by
 unfold Ht;split
 · rename_i h
   constructor
   · intro e;injection e with e;subst e;exact h.choose_spec
   · intro ⟨n,hn⟩
     obtain ⟨m,hm⟩:=h.choose_spec;have a:=Iw (yX n m) br _ _ _ hn;have b:=Iw (yW n m) br _ _ _ hm;rw [<- b,<- a]
 · rename_i h
   exact ⟨fun e=>(by cases e),fun hn=>absurd (Exists.intro r hn) h⟩
theorem DS (n:Nat) (br:Bool):YN (Cs C n br) (Ht C br):=fun _ _ _ e=>B3.2 ⟨n,e⟩
theorem fL {f:FuncId} {args:List PV} {bx:List PBox} {r:CR×List PBox} (e:HS C (Cp C) (Hg C) f args bx=some r):∃ n,HS C (Cs C n false) (Cs C n true) f args bx=some r:=by
 unfold HS at e;split at e
 · rename_i hp
   exact ⟨0,by unfold HS;rw [hp];exact e⟩
 · split at e
   · cases e
   · split at e
     · cases e
     · rename_i hp _ fn hf _ c hb
       split at e
       · rename_i hc
         cases hx:Cp C c ⟨args,bx⟩ with
         | none=>rw [hx] at e;cases e
         | some x=>
          obtain ⟨n,hn⟩:=B3.1 hx;refine ⟨n,?_⟩;rw [hx] at e;unfold HS;simp only [hp,hf,hb];rw [if_pos hc,hn];exact e
       · rename_i hc
         split at e
         · rename_i QC
           cases hx:Hg C c ⟨args,bx⟩ with
           | none=>rw [hx] at e;cases e
           | some x=>
            obtain ⟨n,hn⟩:=B3.1 hx;refine ⟨n,?_⟩;rw [hx] at e;unfold HS;simp only [hp,hf,hb];rw [if_neg hc,if_pos QC,hn];exact e
         · cases e
theorem Gz {f:FuncId} {args:List PV} {bx:List PBox} {r:CR×List PBox}:Ae C f args bx=some r↔∃ n,Gt C n f args bx=some r:=by
 constructor
 · intro e
   unfold Ae Fu at e;split at e
   · rename_i hp
     exact ⟨0,by unfold Gt Fu;rw [hp];exact e⟩
   · rename_i hp
     split at e
     · rename_i k hk
       unfold Ea at e;split at e
       · rename_i st Fq
         cases hx:Cp C k.code st with
         | none=>rw [hx] at e;cases e
         | some x=>
          obtain ⟨n,hn⟩:=B3.1 hx;rw [hx] at e;refine ⟨n,?_⟩;unfold Gt Fu Ea;simp only [hp,hk,Fq];rw [hn];exact e
       · cases e
     · rename_i hk
       obtain ⟨n,hn⟩:=fL e;exact ⟨n,by unfold Gt Fu;simp only [hp,hk];exact hn⟩
 · intro ⟨n,hn⟩
   exact K6 (DS n false) (DS n true) _ _ _ _ hn
theorem Qe {k:FuncId} {vs:List PV} {bx:List PBox} {x:CR×List PBox} (hx:Ak C (Ae C) k vs bx=some x):∃ n,Ak C (Gt C n) k vs bx=some x:=by
 unfold Ak at hx |-;by_cases hb:C.heap k=true\/Aq vs=false
 · have Uk:(C.heap k || !Aq vs)=true:=by rcases hb with h | h <;> simp [h]
   simp only [Uk,if_true] at hx |-;cases hy:Ae C k vs bx with
   | none=>rw [hy] at hx;cases hx
   | some y=>rw [hy] at hx;obtain ⟨n,hn⟩:=Gz.1 hy;exact ⟨n,by rw [hn];exact hx⟩
 · have Uk:¬ (C.heap k || !Aq vs)=true:=by simpa using hb
   simp only [if_neg Uk] at hx |-;cases hy:Ae C k vs [] with
   | none=>rw [hy] at hx;cases hx
   | some y=>rw [hy] at hx;obtain ⟨n,hn⟩:=Gz.1 hy;exact ⟨n,by rw [hn];exact hx⟩
theorem YP {draw:Bool} {al:List (Nat×Loc)} {o:Oper} {st:St} {r:OpR} (e:BR C (Ae C) draw al o st=some r):∃ n,BR C (Gt C n) draw al o st=some r:=by
 unfold BR at e |-;split at e <;> try exact ⟨0,by simp only [*]⟩
 all_goals try (split at e <;> exact ⟨0,by simp only [*]⟩)
 split at e
 · rename_i k vs hcal
   split at e
   · cases e
   · rename_i hd
     cases Cz:JJ C _ _ k vs al st.bx with
     | some m=>
      rw [Cz] at e;simp only at e;cases hx:Ak C (Ae C) k vs (st.bx.take m) with
      | none=>rw [hx] at e;cases e
      | some x=>
       rw [hx] at e;obtain ⟨n,hn⟩:=Qe hx;exact ⟨n,by rw [if_neg hd];simp only [Cz,hn];exact e⟩
     | none=>
      rw [Cz] at e;simp only at e;cases hx:Ak C (Ae C) k vs st.bx with
      | none=>rw [hx] at e;cases e
      | some x=>
       rw [hx] at e;obtain ⟨n,hn⟩:=Qe hx;exact ⟨n,by rw [if_neg hd];simp only [Cz,hn];exact e⟩
 · cases e
theorem Ob {n m:Nat} (h:n<=m):IP (Gt C n) (Gt C m):=K6 (Iw h false) (Iw h true)
theorem HU {draw:Bool} {ops:Array Oper}:∀ (l:List Oper) (al:List (Nat×Loc)) (st:St) (r:Ex×St),evOps C (Ae C) draw ops l al st=some r->∃ n,evOps C (Gt C n) draw ops l al st=some r
 | [],_,_,_,e=>⟨0,e⟩
 | o :: rest,al,st,r,e=>by
  unfold evOps at e;split at e
  · cases e
  · rename_i hw
    obtain ⟨n,hn⟩:=HU rest _ _ _ e;exact ⟨n,by unfold evOps;rw [hw];exact hn⟩
  · rename_i hw
    cases hx:BR C (Ae C) draw al o st with
    | none=>rw [hx] at e;cases e
    | some x=>
     rw [hx] at e;obtain ⟨n,hn⟩:=YP hx;cases x with
     | next st' al'=>
      obtain ⟨m,hm⟩:=HU rest _ _ _ e;refine ⟨max n m,?_⟩;unfold evOps;rw [hw];simp only [VY (Ob (yX n m)) hn];exact HT (Ob (yW n m)) _ _ _ _ hm
     | pan v st'=>
      exact ⟨n,by unfold evOps;rw [hw];simp only [hn];exact e⟩
theorem bD {ops:Array Oper} {l:List Oper} {st:St} {r:Ex×St} (e:Gs (evOps C (Ae C) false ops l [] st)=some r):∃ n,Gs (evOps C (Gt C n) false ops l [] st)=some r:=by
 cases hx:evOps C (Ae C) false ops l [] st with
 | none=>rw [hx] at e;cases e
 | some x=>
  obtain ⟨n,hn⟩:=HU _ _ _ _ hx;exact ⟨n,by rw [hn,<- hx];exact e⟩
theorem VZ {ops:Array Oper} {st:St} {r:Ex×St}:∀ (ls:List (List Nat)),(∀ l ∈ ls,Gs (evOps C (Ae C) false ops (A' ops l) [] st)=some r)->∃ n,∀ l ∈ ls,Gs (evOps C (Gt C n) false ops (A' ops l) [] st)=some r
 | [],_=>⟨0,fun l h=>by simp at h⟩
 | l :: ls,h=>by
  obtain ⟨n,hn⟩:=bD (h l (by simp));obtain ⟨m,hm⟩:=VZ ls (fun l hl=>h l (by simp [hl]));refine ⟨max n m,fun l' FU=>?_⟩;rcases yZ.1 FU with rfl | FU
  · exact N' (Ob (yX n m)) hn
  · exact N' (Ob (yW n m)) (hm l' FU)
theorem AN {call:C4} {ops:Array Oper} {st:St} {r:Ex×St}:drawAll C call ops st=some r↔Cc ops≠[]/\∀ l ∈ Cc ops,Gs (evOps C call false ops (A' ops l) [] st)=some r:=by
 unfold drawAll;cases ho:Cc ops with
 | nil=>simp
 | cons l ls=>
  simp only [ne_eq,reduceCtorEq,not_false_eq_true,true_and];constructor
  · intro e
    cases hx:Gs (evOps C call false ops (A' ops l) [] st) with
    | none=>rw [hx] at e;cases e
    | some x=>
     rw [hx] at e;simp only at e;split at e
     · rename_i ha
       injection e with e
       subst e;intro l' FU;rcases yZ.1 FU with rfl | FU
       · exact hx
       · rw [yY] at ha
         exact YM (ha l' FU)
     · cases e
  · intro h
    rw [h l (by simp)];simp only;rw [if_pos];rw [yY];intro l' FU;rw [h l' (by simp [FU])];exact RU _
theorem WR {ops:Array Oper} {st:St} {r:Ex×St} (e:drawAll C (Ae C) ops st=some r):∃ n,drawAll C (Gt C n) ops st=some r:=by
 obtain ⟨h1,h2⟩:=AN.1 e;obtain ⟨n,hn⟩:=VZ _ h2;exact ⟨n,AN.2 ⟨h1,hn⟩⟩
theorem bE {ops:Array Oper} {st:St} {r:Ex×St} (e:GX C (Ae C) ops st=some r):∃ n,GX C (Gt C n) ops st=some r:=by
 unfold GX at e |-;split
 · rename_i hc
   rw [if_pos hc] at e;exact HU _ _ _ _ e
 · rename_i hc
   rw [if_neg hc] at e;exact WR e
theorem AP {call:C4} {ops:Array Oper} {st:St} (h:Cl C ops=false):GX C call ops st=drawAll C call ops st:=by unfold GX;rw [if_neg (by rw [h];decide)]
theorem Ep {call:C4} {ops:Array Oper} {st:St} (h:Cl C ops=true):GX C call ops st=evOps C call true ops ops.toList [] st:=by unfold GX;rw [if_pos h]
theorem Oc {α:Type} {a b:Option α} (h:∀ r,a=some r->b=some r) (k:∀ r,b=some r->a=some r):a=b:=by
 cases a with
 | some x=>exact (h x rfl).symm
 | none=>cases b with
  | none=>rfl
  | some y=>exact k y rfl
theorem V0 (br:Bool) (st:St):Ht C br .skip st=some (.normal,st):=B3.2 ⟨1,rfl⟩
theorem V1 (br:Bool) (i) (st:St):Ht C br (.exit i) st=some (.exit i,st):=B3.2 ⟨1,rfl⟩
theorem YQ (br:Bool) (st:St):Ht C br .ret st=some (.ret,st):=B3.2 ⟨1,rfl⟩
theorem K7 (br:Bool) (i) (ops:Array Oper) (draw:Bool) (st:St):Ht C br (.region i ops draw) st=if br && draw then GX C (Ae C) ops st else evOps C (Ae C) draw ops ops.toList [] st:=by
 refine Oc (fun r h=>?_) (fun r h=>?_)
 · obtain ⟨n,hn⟩:=B3.1 h
   cases n with
   | zero=>simp [Cs] at hn
   | succ n=>
    unfold Cs at hn;simp only at hn;split at hn
    · rename_i hb
      rw [if_pos hb];exact YO (K6 (DS n false) (DS n true)) hn
    · rename_i hb
      rw [if_neg hb];exact HT (K6 (DS n false) (DS n true)) _ _ _ _ hn
 · split at h
   · rename_i hb
     obtain ⟨n,hn⟩:=bE h;exact B3.2 ⟨n+1,by unfold Cs;simp only;rw [if_pos hb];exact hn⟩
   · rename_i hb
     obtain ⟨n,hn⟩:=HU _ _ _ _ h;exact B3.2 ⟨n+1,by unfold Cs;simp only;rw [if_neg hb];exact hn⟩
def EX (r:Option (Ex×St)) (k:St->Option (Ex×St)):Option (Ex×St):=
 match r with
 | some (.normal,st')=>k st'
 | r=>r
theorem K8 (br:Bool) (a b:Code) (st:St):Ht C br (.seq a b) st=EX (Ht C br a st) (Ht C br b):=by
 refine Oc (fun r h=>?_) (fun r h=>?_)
 · obtain ⟨n,hn⟩:=B3.1 h
   cases n with
   | zero=>simp [Cs] at hn
   | succ n=>
    unfold Cs at hn;simp only at hn;cases hx:Cs C n br a st with
    | none=>rw [hx] at hn;cases hn
    | some x=>
     rw [hx] at hn;rw [DS n br _ _ _ hx];obtain ⟨x,st'⟩:=x;cases x <;> simp only [EX] at hn |-
     · exact DS n br _ _ _ hn
     all_goals exact hn
 · cases hx:Ht C br a st with
   | none=>rw [hx] at h;cases h
   | some x=>
    rw [hx] at h;obtain ⟨n,hn⟩:=B3.1 hx;obtain ⟨x,st'⟩:=x;cases x with
    | normal=>
     simp only [EX] at h;obtain ⟨m,hm⟩:=B3.1 h;refine B3.2 ⟨max n m+1,?_⟩;unfold Cs;simp only [Iw (yX n m) br _ _ _ hn];exact Iw (yW n m) br _ _ _ hm
    | _=>exact B3.2 ⟨n+1,by unfold Cs;simp only [hn];exact h⟩
theorem V2 (br:Bool) (o:Operand) (a b:Code) (st:St):Ht C br (.cond o a b) st=match opd C st.env o with
 | .bool t=>if t then Ht C br a st else Ht C br b st
 | _=>none:=by
 refine Oc (fun r h=>?_) (fun r h=>?_)
 · obtain ⟨n,hn⟩:=B3.1 h
   cases n with
   | zero=>simp [Cs] at hn
   | succ n=>
    unfold Cs at hn;simp only at hn;split at hn
    · rename_i t ht
      rw [ht];cases t <;> exact DS n br _ _ _ hn
    · cases hn
 · split at h
   · rename_i t ht
     cases t
     all_goals
      obtain ⟨n,hn⟩:=B3.1 h;exact B3.2 ⟨n+1,by unfold Cs;simp only [ht];exact hn⟩
   · cases h
def FD (id:Nat) (r:Option (Ex×St)):Option (Ex×St):=
 match r with
 | some (.exit id',st')=>if id'=id then some (.normal,st') else some (.exit id',st')
 | r=>r
theorem HV (br:Bool) (id) (b:Code) (st:St):Ht C br (.block id b) st=FD id (Ht C br b st):=by
 refine Oc (fun r h=>?_) (fun r h=>?_)
 · obtain ⟨n,hn⟩:=B3.1 h
   cases n with
   | zero=>simp [Cs] at hn
   | succ n=>
    unfold Cs at hn;simp only at hn;cases hx:Cs C n br b st with
    | none=>rw [hx] at hn;cases hn
    | some x=>rw [hx] at hn;rw [DS n br _ _ _ hx];exact hn
 · cases hx:Ht C br b st with
   | none=>rw [hx] at h;cases h
   | some x=>
    rw [hx] at h;obtain ⟨n,hn⟩:=B3.1 hx;exact B3.2 ⟨n+1,by unfold Cs;simp only [hn];exact h⟩
theorem V3 (br:Bool) (b:Code) (st:St):Ht C br (.loop b) st=EX (Ht C br b st) (Ht C br (.loop b)):=by
 refine Oc (fun r h=>?_) (fun r h=>?_)
 · obtain ⟨n,hn⟩:=B3.1 h
   cases n with
   | zero=>simp [Cs] at hn
   | succ n=>
    unfold Cs at hn;simp only at hn;cases hx:Cs C n br b st with
    | none=>rw [hx] at hn;cases hn
    | some x=>
     rw [hx] at hn;rw [DS n br _ _ _ hx];obtain ⟨x,st'⟩:=x;cases x <;> simp only [EX] at hn |-
     · exact DS n br _ _ _ hn
     all_goals exact hn
 · cases hx:Ht C br b st with
   | none=>rw [hx] at h;cases h
   | some x=>
    rw [hx] at h;obtain ⟨n,hn⟩:=B3.1 hx;obtain ⟨x,st'⟩:=x;cases x with
    | normal=>
     simp only [EX] at h;obtain ⟨m,hm⟩:=B3.1 h;refine B3.2 ⟨max n m+1,?_⟩;unfold Cs;simp only [Iw (yX n m) br _ _ _ hn];exact Iw (yW n m) br _ _ _ hm
    | _=>exact B3.2 ⟨n+1,by unfold Cs;simp only [hn];exact h⟩
theorem YR (st:St):Cp C .skip st=some (.normal,st):=V0 false st
theorem YS (i) (st:St):Cp C (.exit i) st=some (.exit i,st):=V1 false i st
theorem dS (st:St):Cp C .ret st=some (.ret,st):=YQ false st
theorem RX (i) (ops:Array Oper) (draw:Bool) (st:St):Cp C (.region i ops draw) st=evOps C (Ae C) draw ops ops.toList [] st:=K7 false i ops draw st
theorem dT (a b:Code) (st:St):Cp C (.seq a b) st=EX (Cp C a st) (Cp C b):=K8 false a b st
theorem jb (o:Operand) (a b:Code) (st:St):Cp C (.cond o a b) st=match opd C st.env o with
 | .bool t=>if t then Cp C a st else Cp C b st
 | _=>none:=V2 false o a b st
theorem V4 (id) (b:Code) (st:St):Cp C (.block id b) st=FD id (Cp C b st):=HV false id b st
theorem jc (b:Code) (st:St):Cp C (.loop b) st=EX (Cp C b st) (Cp C (.loop b)):=V3 false b st
def Fin:=Option (Ex×St)->Option (CR×List PBox)
def CB (C:Cfg) (rs:List ResultVar):Option (Ex×St)->Option (CR×List PBox)
 | some (.pan v,st)=>some (.pan v,st.bx)
 | some (.exit _,_)=>none
 | some (_,st)=>match CU C st rs with
  | some vs=>some (.ret (Je vs),st.bx)
  | none=>none
 | none=>none
theorem Ah {f:FuncId} {fn:Func} {c:Code} {args:List PV} {bx:List PBox} (hh:C.hprim f=none) (hp:C.prim f=none) (hf:C.P.funcs[f]?=some fn) (hb:fn.body=some c)
 (Ek:Bk C fn c=true) (hn:args.length<=fn.ntmps) (hk:C.cat f=none:=by rfl):Ae C f args bx=CB C fn.results.toList (Cp C c ⟨args,bx⟩):=by
 unfold Ae Fu HS;simp only [hh,hp,hk,hf,hb,Ek,y0,decide_eq_true hn,if_true];cases Cp C c ⟨args,bx⟩ with
 | none=>rfl
 | some x=>
  obtain ⟨x,st⟩:=x;cases x <;> rfl
theorem Ce {f:FuncId} {fn:Func} {c:Code} {args:List PV} {bx:List PBox} (hh:C.hprim f=none) (hp:C.prim f=none) (hf:C.P.funcs[f]?=some fn) (hb:fn.body=some c)
 (HM:Bk C fn c=false) (Ek:GY C fn c=true) (hn:args.length<=fn.ntmps) (hk:C.cat f=none:=by rfl):Ae C f args bx=CB C fn.results.toList (Hg C c ⟨args,bx⟩):=by
 unfold Ae Fu HS;simp only [hh,hp,hk,hf,hb,HM,Ek,y0,Bool.false_and,Bool.false_eq_true,if_false,decide_eq_true hn,if_true];cases Hg C c ⟨args,bx⟩ with
 | none=>rfl
 | some x=>
  obtain ⟨x,st⟩:=x;cases x <;> rfl
theorem FH {f:FuncId} {k:Cat} {args:List PV} {bx:List PBox} (hh:C.hprim f=none) (hk:C.cat f=some k):Ae C f args bx=Ea k (Cp C) args bx:=by
 unfold Ae Fu;simp only [hh,hk]
end Go.HH
