/-
  What the law needs, packed: Draw2.
-/
import Derived.Test.YthjabmlbmnadjaaGreatJ22
open Go.Op renaming operands->yW
open List renaming map_congr_left->yX,mem_map->y2
open Bool renaming false_eq_true->yY,and_self->y1
open Go.Call renaming operands->yZ
open Option renaming map_some->y0
namespace Go.HH
open Go Go.RowKit
section
variable {C:Cfg} {D:List Deferred} {B:Nat} {T:Nat->Prop} {S:AY} {M:List Nat} {n:Nat} {a:Act} {w:World}
theorem Sim.congrEnv {e e':List PV} {bx:List PBox} (h:Sim C D B T S M n ⟨e,bx⟩ a w) (he:∀ t,getT e' t=getT e t):Sim C D B T S M n ⟨e',bx⟩ a w:=by
 have loc:∀ l x xs v,LocAt ⟨e',bx⟩ M a w l (.osl x xs) v->LocAt ⟨e,bx⟩ M a w l (.osl x xs) v:=by
  intro l x xs v hl;cases l with
  | tmp t=>obtain ⟨h1,h2⟩:=hl;simp only at h1;rw [he] at h1;exact ⟨h1,h2⟩
  | box id off=>exact hl
 exact ⟨h.holds,h.glob,h.gw,h.size,h.dfr,fun t=>by simp only;rw [he];exact h.env t,h.mlen,h.boxes,h.nodup,h.mS,h.mT,h.hB,fun l x xs v hl=>h.own l x xs v (loc _ _ _ _ hl),
  fun l l' x x' xs xs' v v' g hl FU=>h.apart l l' x x' xs xs' v v' g (loc _ _ _ _ hl) (loc _ _ _ _ FU)⟩
theorem fS {e e':List PV} {x:Operand} (h:∀ t,x=.tmp t->getT e' t=getT e t):opd C e' x=opd C e x:=by
 unfold opd raw;cases x with
 | tmp t=>simp only;rw [h t rfl]
 | const v=>rfl
 | global g=>rfl
 | func f=>rfl
theorem bV {o:Oper} {t:Tmp} (h:.tmp t ∈ o.op.operands.toList):t ∈ tmpsOf o:=by
 unfold tmpsOf;rw [List.mem_filterMap];exact ⟨.tmp t,h,rfl⟩
theorem W3 {bx:List PBox} {e e':List PV} {op:Op} (h:∀ x ∈ op.operands.toList,opd C e' x=opd C e x):Cv C bx e' op=Cv C bx e op:=by
 cases op with
 | move x=>simp only [Cv];rw [h x (by simp [yW])]
 | assign x=>rfl
 | pick c x y=>simp only [Cv];rw [h c (by simp [yW]),h x (by simp [yW]),h y (by simp [yW])]
 | load t x=>simp only [Cv];rw [h x (by simp [yW])]
 | nilCheck x=>simp only [Cv];rw [h x (by simp [yW])]
 | binOp op t x y t'=>simp only [Cv];rw [h x (by simp [yW]),h y (by simp [yW])]
 | unOp op t x=>simp only [Cv];rw [h x (by simp [yW])]
 | convert s d x=>simp only [Cv];rw [h x (by simp [yW])]
 | slice t x lo hi mx=>
  cases mx with
  | some m=>rfl
  | none=>
   simp only [Cv];have e1:lo.map (opd C e')=lo.map (opd C e):=by cases lo with | none=>rfl | some y=>simp only [y0];rw [h y (by simp [yW])]
   have e2:hi.map (opd C e')=hi.map (opd C e):=by cases hi with | none=>rfl | some y=>simp only [y0];rw [h y (by simp [yW])]
   rw [h x (by simp [yW]),e1,e2]
 | fieldAddr t x f=>simp only [Cv];rw [h x (by simp [yW])]
 | field t x f=>simp only [Cv];rw [h x (by simp [yW])]
 | indexAddr t x i=>simp only [Cv];rw [h x (by simp [yW]),h i (by simp [yW])]
 | index t x i=>simp only [Cv];rw [h x (by simp [yW]),h i (by simp [yW])]
 | extract x i=>simp only [Cv];rw [h x (by simp [yW])]
 | build t parts=>
  simp only [Cv]
  have:(parts.toList.map fun p=>(p.1,(opd C e' p.2).shutV))=parts.toList.map fun p=>(p.1,(opd C e p.2).shutV):=by
   apply yX;intro p hp;rw [h p.2 (by simp only [yW,y2];exact ⟨p,hp,rfl⟩)]
  rw [this]
 | makeFunc f x y=>
  cases f with
  | func f=>
   simp only [Cv]
   have e1:(x.toList.map fun z=>(opd C e' z).shutV)=x.toList.map fun z=>(opd C e z).shutV:=by
    apply yX;intro z hz;rw [h z (by simp [yW] at hz |-;exact .inl hz)]
   have e2:(y.toList.map fun z=>(opd C e' z).shutV)=y.toList.map fun z=>(opd C e z).shutV:=by
    apply yX;intro z hz;rw [h z (by simp [yW] at hz |-;exact .inr hz)]
   rw [e1,e2]
  | _=>rfl
 | call c=>
  obtain ⟨callee,args,argTypes⟩:=c;cases callee with
  | builtin b=>
   have fy:∀ x ∈ args.toList,opd C e' x=opd C e x:=fun x hx=>h x (by simp [yW,yZ] at hx |-;exact hx);have hmap:args.toList.map (opd C e')=args.toList.map (opd C e):=yX fy;cases b <;> try rfl
   · simp only [Cv]
     cases h0:argTypes[0]? with
     | none=>rfl
     | some t=>
      cases h1:args[0]? with
      | none=>rfl
      | some x=>
       have hx:x ∈ args.toList:=by
        have:=Array.mem_of_getElem? h1;simpa using this
       simp only;rw [fy x hx]
   · simp only [Cv];rw [hmap]
   · simp only [Cv];rw [hmap]
  | value f=>rfl
  | invoke r m=>rfl
 | makeInterface t x=>simp only [Cv];rw [h x (by simp [yW])]
 | _=>rfl
theorem Qm {call:C4} {o:Oper} (hc:Iv C o=true) {e:List PV} {bx:List PBox} {al:List (Nat×Loc)} {r:OpR} (hr:BR C call true al o ⟨e,bx⟩=some r) :
 ∃ v,r=.next ((St.mk e bx).put o.dst v) (F0 o.op e o.dst++Ap al o.dst)/\∀ e' al',(∀ t ∈ tmpsOf o,getT e' t=getT e t)->BR C call true al' o ⟨e',bx⟩=some (.next ((St.mk e' bx).put o.dst v) (F0 o.op e o.dst++Ap al' o.dst)):=by
 have cong:∀ e',(∀ t ∈ tmpsOf o,getT e' t=getT e t)->∀ x ∈ o.op.operands.toList,opd C e' x=opd C e x:=by
  intro e' he x hx;exact fS fun t ht=>he t (bV (by rw [<- ht];exact hx))
 unfold BR at hr;split at hr
 · rename_i x ho
   have hn:F0 o.op e o.dst=[]:=by rw [ho];rfl
   have we:A5 C o.type=true:=by
    unfold Iv at hc;rw [ho] at hc;simpa [calm] using hc
   simp only [we,y1,if_true,Option.some.injEq] at hr;subst hr;refine ⟨opd C e x,by rw [hn];rfl,fun e' al' he=>?_⟩;unfold BR;simp only [ho,we,y1,if_true];rw [cong e' he x (by rw [ho];simp [yW])];rfl
 · rename_i t ho;unfold Iv at hc;rw [ho] at hc;simp [calm] at hc
 · rename_i t x ho;unfold Iv at hc;rw [ho] at hc;simp [calm] at hc
 · rename_i t ad x ho;unfold Iv at hc;rw [ho] at hc;simp [calm] at hc
 · rename_i t len parts ho
   split at hr
   · rename_i v hv
     have hn:F0 o.op e o.dst=[]:=by rw [ho];rfl
     simp only [Option.some.injEq] at hr;subst hr;refine ⟨v,by rw [hn];rfl,fun e' al' he=>?_⟩;rw [hn];unfold BR;simp only [ho]
     have:(parts.toList.map fun p=>(p.1,opd C e' p.2))=parts.toList.map fun p=>(p.1,opd C e p.2):=by
      apply yX;intro p hp;rw [cong e' he p.2 (by rw [ho];simp only [yW,y2];exact ⟨p,hp,rfl⟩)]
     rw [this,hv];rfl
   · cases hr
 · rename_i t l c ho;unfold Iv at hc;rw [ho] at hc;simp [calm] at hc
 · rename_i t x ho;unfold Iv at hc;rw [ho] at hc;simp [calm] at hc
 · rename_i x ho;unfold Iv at hc;rw [ho] at hc;simp [calm] at hc
 · rename_i x ho;unfold Iv at hc;rw [ho] at hc;simp [calm] at hc
 · rename_i args argTypes ho;unfold Iv at hc;rw [ho] at hc;simp [calm] at hc
 · rename_i f args argTypes ho
   split at hr
   · rename_i k vs QE
     split at hr
     · cases hr
     · rename_i oU
       have vh:WQ f=true:=by
        unfold Iv at hc;rw [ho] at hc;cases f <;> simp [calm,WQ] at hc |-
       have l7:(C.heap k || !Aq vs)=false:=by simpa [vh] using oU
       have Cz:∀ al bx,cutAt C k vs al bx=none:=fun al bx=>by
        unfold cutAt;rw [l7];cases Dl al <;> rfl
       have Cz:∀ f tys al bx,JJ C f tys k vs al bx=none:=fun f tys al bx=>by
        unfold JJ;split
        · exact Cz al bx
        · rfl
       rw [Cz] at hr;simp only at hr;split at hr
       · rename_i v bx' Fk
         have Yl:bx'=bx:=by
          unfold Ak at Fk;rw [l7] at Fk;simp only [yY,if_false] at Fk;split at Fk
          · split at Fk
            · injection Fk with Fk;injection Fk with _ Fk;exact Fk.symm
            · cases Fk
          · cases Fk
         subst Yl;have hfil:∀ al,Eo C k vs al=al:=fun al=>by unfold Eo;rw [l7];rfl
         have hn:F0 o.op e o.dst=[]:=by rw [ho];rfl
         simp only [hfil,Option.some.injEq] at hr;subst hr;refine ⟨v,by rw [hn];rfl,fun e' al' he=>?_⟩;rw [hn]
         have rV:L2 C e' { callee:=.value f,args,argTypes }=some (k,vs):=by
          rw [<- QE];unfold L2;simp only;rw [cong e' he f (by rw [ho];simp [yW,yZ])]
          have:(args.toList.map fun x=>(opd C e' x).shutV)=args.toList.map fun x=>(opd C e x).shutV:=by
           apply yX;intro x hx;rw [cong e' he x (by rw [ho];simp [yW,yZ] at hx |-;exact .inr hx)]
          rw [this]
         unfold BR;simp only [ho,rV,l7,Cz,Bool.and_false,yY,if_false,Fk,hfil];rfl
       · rename_i v bx' Fk
         exfalso;unfold Ak at Fk;rw [l7] at Fk;simp only [yY,if_false] at Fk;split at Fk
         · split at Fk
           · injection Fk with Fk;injection Fk with Fk _;cases Fk
           · cases Fk
         · cases Fk
       · cases hr
   · cases hr
 · rename_i mE o4 wg hn4 hn5 hn5b hn6 hn7 hn8 hn9 hn10
   split at hr
   · rename_i v hv
     injection hr with hr
     subst hr;refine ⟨v,rfl,fun e' al' he=>?_⟩
     have hmatch:Hf C true (St.mk e' bx) o.op o.dst al'=F0 o.op e o.dst++Ap al' o.dst:=by
      have hn:F0 o.op e' o.dst=F0 o.op e o.dst:=by
       unfold F0;split
       · rename_i t d ho hdd
         rw [he t (by unfold tmpsOf;rw [ho];simp [yW])]
       · rfl
      show F0 o.op e' o.dst++Ap al' o.dst=_;rw [hn]
     have QD:Cv C bx e' o.op=some v:=by rw [W3 (cong e' he)];exact hv
     unfold BR;split
     · rename_i x ho;exact absurd ho (mE x)
     · rename_i t ho;exact absurd ho (o4 t)
     · rename_i t x ho;exact absurd ho (wg t x)
     · rename_i t ad x ho;exact absurd ho (hn4 t ad x)
     · rename_i t len parts ho;exact absurd ho (hn5 t len parts)
     · rename_i t l c ho;exact absurd ho (hn5b t l c)
     · rename_i t x ho;exact absurd ho (hn6 t x)
     · rename_i x ho;exact absurd ho (hn7 x)
     · rename_i x ho;exact absurd ho (hn8 x)
     · rename_i x y ho;exact absurd ho (hn9 x y)
     · rename_i x y z ho;exact absurd ho (hn10 x y z)
     · rw [QD]
       simp only [hmatch]
   · cases hr
end
end Go.HH
