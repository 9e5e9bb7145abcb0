/-
  What the law needs, packed: Draw2.
-/
import Derived.Test.YthjcaihemgllaaaGreatDoorK22
open Go.Op renaming operands->Aau
open List renaming map_congr_left->Aav,mem_map->Ab0
open Bool renaming false_eq_true->Aaw,and_self->Aaz
open Go.Call renaming operands->Aax
open Option renaming map_some->Aay
namespace Go.HH
open Go Go.RowKit
section
variable {C:Cfg} {D:List Deferred} {B:Nat} {T:Nat->Prop} {S:AJ} {M:List Nat} {n:Nat} {a:Act} {w:World}
theorem Sim.congrEnv {e e':List PV} {bx:List PBox} (h:Sim C D B T S M n ⟨e,bx⟩ a w) (he:∀ t,getT e' t=getT e t):Sim C D B T S M n ⟨e',bx⟩ a w:=by
 have loc:∀ l x xs v,LocAt ⟨e',bx⟩ M a w l (.osl x xs) v->LocAt ⟨e,bx⟩ M a w l (.osl x xs) v:=by
  intro l x xs v hl;cases l with
  | tmp t=>obtain ⟨h1,h2⟩:=hl;simp only at h1;rw [he] at h1;exact ⟨h1,h2⟩
  | box id off=>exact hl
 exact ⟨h.holds,h.glob,h.gw,h.size,h.dfr,fun t=>by simp only;rw [he];exact h.env t,h.mlen,h.boxes,h.nodup,h.mS,h.mT,h.hB,fun l x xs v hl=>h.own l x xs v (loc _ _ _ _ hl),
  fun l l' x x' xs xs' v v' g hl D3=>h.apart l l' x x' xs xs' v v' g (loc _ _ _ _ hl) (loc _ _ _ _ D3)⟩
theorem fm {e e':List PV} {x:Operand} (h:∀ t,x=.tmp t->getT e' t=getT e t):opd C e' x=opd C e x:=by
 unfold opd raw;cases x with
 | tmp t=>simp only;rw [h t rfl]
 | const v=>rfl
 | global g=>rfl
 | func f=>rfl
theorem aD {o:Oper} {t:Tmp} (h:.tmp t ∈ o.op.operands.toList):t ∈ tmpsOf o:=by
 unfold tmpsOf;rw [List.mem_filterMap];exact ⟨.tmp t,h,rfl⟩
theorem V8 {bx:List PBox} {e e':List PV} {op:Op} (h:∀ x ∈ op.operands.toList,opd C e' x=opd C e x):BZ C bx e' op=BZ C bx e op:=by
 cases op with
 | move x=>simp only [BZ];rw [h x (by simp [Aau])]
 | assign x=>rfl
 | pick c x y=>simp only [BZ];rw [h c (by simp [Aau]),h x (by simp [Aau]),h y (by simp [Aau])]
 | load t x=>simp only [BZ];rw [h x (by simp [Aau])]
 | nilCheck x=>simp only [BZ];rw [h x (by simp [Aau])]
 | binOp op t x y t'=>simp only [BZ];rw [h x (by simp [Aau]),h y (by simp [Aau])]
 | unOp op t x=>simp only [BZ];rw [h x (by simp [Aau])]
 | convert s d x=>simp only [BZ];rw [h x (by simp [Aau])]
 | slice t x lo hi mx=>
  cases mx with
  | some m=>rfl
  | none=>
   simp only [BZ];have e1:lo.map (opd C e')=lo.map (opd C e):=by cases lo with | none=>rfl | some y=>simp only [Aay];rw [h y (by simp [Aau])]
   have e2:hi.map (opd C e')=hi.map (opd C e):=by cases hi with | none=>rfl | some y=>simp only [Aay];rw [h y (by simp [Aau])]
   rw [h x (by simp [Aau]),e1,e2]
 | fieldAddr t x f=>simp only [BZ];rw [h x (by simp [Aau])]
 | field t x f=>simp only [BZ];rw [h x (by simp [Aau])]
 | indexAddr t x i=>simp only [BZ];rw [h x (by simp [Aau]),h i (by simp [Aau])]
 | index t x i=>simp only [BZ];rw [h x (by simp [Aau]),h i (by simp [Aau])]
 | extract x i=>simp only [BZ];rw [h x (by simp [Aau])]
 | build t parts=>
  simp only [BZ]
  have:(parts.toList.map fun p=>(p.1,(opd C e' p.2).shutV))=parts.toList.map fun p=>(p.1,(opd C e p.2).shutV):=by
   apply Aav;intro p hp;rw [h p.2 (by simp only [Aau,Ab0];exact ⟨p,hp,rfl⟩)]
  rw [this]
 | makeFunc f x y=>
  cases f with
  | func f=>
   simp only [BZ]
   have e1:(x.toList.map fun z=>(opd C e' z).shutV)=x.toList.map fun z=>(opd C e z).shutV:=by
    apply Aav;intro z hz;rw [h z (by simp [Aau] at hz |-;exact .inl hz)]
   have e2:(y.toList.map fun z=>(opd C e' z).shutV)=y.toList.map fun z=>(opd C e z).shutV:=by
    apply Aav;intro z hz;rw [h z (by simp [Aau] at hz |-;exact .inr hz)]
   rw [e1,e2]
  | _=>rfl
 | call c=>
  obtain ⟨callee,args,argTypes⟩:=c;cases callee with
  | builtin b=>
   have eL:∀ x ∈ args.toList,opd C e' x=opd C e x:=fun x hx=>h x (by simp [Aau,Aax] at hx |-;exact hx);have hmap:args.toList.map (opd C e')=args.toList.map (opd C e):=Aav eL;cases b <;> try rfl
   · simp only [BZ]
     cases h0:argTypes[0]? with
     | none=>rfl
     | some t=>
      cases h1:args[0]? with
      | none=>rfl
      | some x=>
       have hx:x ∈ args.toList:=by
        have:=Array.mem_of_getElem? h1;simpa using this
       simp only;rw [eL x hx]
   · simp only [BZ];rw [hmap]
   · simp only [BZ];rw [hmap]
  | value f=>rfl
  | invoke r m=>rfl
 | makeInterface t x=>simp only [BZ];rw [h x (by simp [Aau])]
 | _=>rfl
theorem Pg {call:Cn} {o:Oper} (hc:HE C o=true) {e:List PV} {bx:List PBox} {al:List (Nat×Loc)} {r:OpR} (hr:Bq C call true al o ⟨e,bx⟩=some r) :
 ∃ v,r=.next ((St.mk e bx).put o.dst v) (E' o.op e o.dst++Aj al o.dst)/\∀ e' al',(∀ t ∈ tmpsOf o,getT e' t=getT e t)->Bq C call true al' o ⟨e',bx⟩=some (.next ((St.mk e' bx).put o.dst v) (E' o.op e o.dst++Aj al' o.dst)):=by
 have cong:∀ e',(∀ t ∈ tmpsOf o,getT e' t=getT e t)->∀ x ∈ o.op.operands.toList,opd C e' x=opd C e x:=by
  intro e' he x hx;exact fm fun t ht=>he t (aD (by rw [<- ht];exact hx))
 unfold Bq at hr;split at hr
 · rename_i x ho
   have hn:E' o.op e o.dst=[]:=by rw [ho];rfl
   have hns:AN C o.type=true:=by
    unfold HE at hc;rw [ho] at hc;simpa [calm] using hc
   simp only [hns,Aaz,if_true,Option.some.injEq] at hr;subst hr;refine ⟨opd C e x,by rw [hn];rfl,fun e' al' he=>?_⟩;unfold Bq;simp only [ho,hns,Aaz,if_true];rw [cong e' he x (by rw [ho];simp [Aau])];rfl
 · rename_i t ho;unfold HE at hc;rw [ho] at hc;simp [calm] at hc
 · rename_i t x ho;unfold HE at hc;rw [ho] at hc;simp [calm] at hc
 · rename_i t ad x ho;unfold HE at hc;rw [ho] at hc;simp [calm] at hc
 · rename_i t len parts ho
   split at hr
   · rename_i v hv
     have hn:E' o.op e o.dst=[]:=by rw [ho];rfl
     simp only [Option.some.injEq] at hr;subst hr;refine ⟨v,by rw [hn];rfl,fun e' al' he=>?_⟩;rw [hn];unfold Bq;simp only [ho]
     have:(parts.toList.map fun p=>(p.1,opd C e' p.2))=parts.toList.map fun p=>(p.1,opd C e p.2):=by
      apply Aav;intro p hp;rw [cong e' he p.2 (by rw [ho];simp only [Aau,Ab0];exact ⟨p,hp,rfl⟩)]
     rw [this,hv];rfl
   · cases hr
 · rename_i t l c ho;unfold HE at hc;rw [ho] at hc;simp [calm] at hc
 · rename_i t x ho;unfold HE at hc;rw [ho] at hc;simp [calm] at hc
 · rename_i x ho;unfold HE at hc;rw [ho] at hc;simp [calm] at hc
 · rename_i x ho;unfold HE at hc;rw [ho] at hc;simp [calm] at hc
 · rename_i args argTypes ho;unfold HE at hc;rw [ho] at hc;simp [calm] at hc
 · rename_i f args argTypes ho
   split at hr
   · rename_i k vs MA
     split at hr
     · cases hr
     · rename_i nz
       have mW:VV f=true:=by
        unfold HE at hc;rw [ho] at hc;cases f <;> simp [calm,VV] at hc |-
       have mZ:(C.heap k || !Ak vs)=false:=by simpa [mW] using nz
       have Cr:∀ al bx,cutAt C k vs al bx=none:=fun al bx=>by
        unfold cutAt;rw [mZ];cases CL al <;> rfl
       have Cr:∀ f tys al bx,JS C f tys k vs al bx=none:=fun f tys al bx=>by
        unfold JS;split
        · exact Cr al bx
        · rfl
       rw [Cr] at hr;simp only at hr;split at hr
       · rename_i v bx' Et
         have Kf:bx'=bx:=by
          unfold Ai at Et;rw [mZ] at Et;simp only [Aaw,if_false] at Et;split at Et
          · split at Et
            · injection Et with Et;injection Et with _ Et;exact Et.symm
            · cases Et
          · cases Et
         subst Kf;have hfil:∀ al,Dp C k vs al=al:=fun al=>by unfold Dp;rw [mZ];rfl
         have hn:E' o.op e o.dst=[]:=by rw [ho];rfl
         simp only [hfil,Option.some.injEq] at hr;subst hr;refine ⟨v,by rw [hn];rfl,fun e' al' he=>?_⟩;rw [hn]
         have na:Lb C e' { callee:=.value f,args,argTypes }=some (k,vs):=by
          rw [<- MA];unfold Lb;simp only;rw [cong e' he f (by rw [ho];simp [Aau,Aax])]
          have:(args.toList.map fun x=>(opd C e' x).shutV)=args.toList.map fun x=>(opd C e x).shutV:=by
           apply Aav;intro x hx;rw [cong e' he x (by rw [ho];simp [Aau,Aax] at hx |-;exact .inr hx)]
          rw [this]
         unfold Bq;simp only [ho,na,mZ,Cr,Bool.and_false,Aaw,if_false,Et,hfil];rfl
       · rename_i v bx' Et
         exfalso;unfold Ai at Et;rw [mZ] at Et;simp only [Aaw,if_false] at Et;split at Et
         · split at Et
           · injection Et with Et;injection Et with Et _;cases Et
           · cases Et
         · cases Et
       · cases hr
   · cases hr
 · rename_i nB yK vd hn4 hn5 hn5b hn6 hn7 hn8 hn9 hn10
   split at hr
   · rename_i v hv
     injection hr with hr
     subst hr;refine ⟨v,rfl,fun e' al' he=>?_⟩
     have hmatch:Gv C true (St.mk e' bx) o.op o.dst al'=E' o.op e o.dst++Aj al' o.dst:=by
      have hn:E' o.op e' o.dst=E' o.op e o.dst:=by
       unfold E';split
       · rename_i t d ho hdd
         rw [he t (by unfold tmpsOf;rw [ho];simp [Aau])]
       · rfl
      show E' o.op e' o.dst++Aj al' o.dst=_;rw [hn]
     have Pz:BZ C bx e' o.op=some v:=by rw [V8 (cong e' he)];exact hv
     unfold Bq;split
     · rename_i x ho;exact absurd ho (nB x)
     · rename_i t ho;exact absurd ho (yK t)
     · rename_i t x ho;exact absurd ho (vd t x)
     · rename_i t ad x ho;exact absurd ho (hn4 t ad x)
     · rename_i t len parts ho;exact absurd ho (hn5 t len parts)
     · rename_i t l c ho;exact absurd ho (hn5b t l c)
     · rename_i t x ho;exact absurd ho (hn6 t x)
     · rename_i x ho;exact absurd ho (hn7 x)
     · rename_i x ho;exact absurd ho (hn8 x)
     · rename_i x y ho;exact absurd ho (hn9 x y)
     · rename_i x y z ho;exact absurd ho (hn10 x y z)
     · rw [Pz]
       simp only [hmatch]
   · cases hr
end
end Go.HH
