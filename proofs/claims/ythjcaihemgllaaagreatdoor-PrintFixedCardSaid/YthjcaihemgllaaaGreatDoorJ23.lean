/-
  What the law needs, packed: Draw2.
-/
import Derived.Test.YthjcaihemgllaaaGreatDoorJ22
open Go.Op renaming operands->Aa0
open List renaming map_congr_left->Aa1,mem_map->Aa6
open Bool renaming false_eq_true->Aa2,and_self->Aa5
open Go.Call renaming operands->Aa3
open Option renaming map_some->Aa4
namespace Go.HH
open Go Go.RowKit
section
variable {C:Cfg} {D:List Deferred} {B:Nat} {T:Nat->Prop} {S:AI} {M:List Nat} {n:Nat} {a:Act} {w:World}
theorem Sim.congrEnv {e e':List PV} {bx:List PBox} (h:Sim C D B T S M n ⟨e,bx⟩ a w) (he:∀ t,getT e' t=getT e t):Sim C D B T S M n ⟨e',bx⟩ a w:=by
 have loc:∀ l x xs v,LocAt ⟨e',bx⟩ M a w l (.osl x xs) v->LocAt ⟨e,bx⟩ M a w l (.osl x xs) v:=by
  intro l x xs v hl;cases l with
  | tmp t=>obtain ⟨h1,h2⟩:=hl;simp only at h1;rw [he] at h1;exact ⟨h1,h2⟩
  | box id off=>exact hl
 exact ⟨h.holds,h.glob,h.gw,h.size,h.dfr,fun t=>by simp only;rw [he];exact h.env t,h.mlen,h.boxes,h.nodup,h.mS,h.mT,h.hB,fun l x xs v hl=>h.own l x xs v (loc _ _ _ _ hl),
  fun l l' x x' xs xs' v v' g hl D4=>h.apart l l' x x' xs xs' v v' g (loc _ _ _ _ hl) (loc _ _ _ _ D4)⟩
theorem eM {e e':List PV} {x:Operand} (h:∀ t,x=.tmp t->getT e' t=getT e t):opd C e' x=opd C e x:=by
 unfold opd raw;cases x with
 | tmp t=>simp only;rw [h t rfl]
 | const v=>rfl
 | global g=>rfl
 | func f=>rfl
theorem Z4 {o:Oper} {t:Tmp} (h:.tmp t ∈ o.op.operands.toList):t ∈ tmpsOf o:=by
 unfold tmpsOf;rw [List.mem_filterMap];exact ⟨.tmp t,h,rfl⟩
theorem VV {bx:List PBox} {e e':List PV} {op:Op} (h:∀ x ∈ op.operands.toList,opd C e' x=opd C e x):B1 C bx e' op=B1 C bx e op:=by
 cases op with
 | move x=>simp only [B1];rw [h x (by simp [Aa0])]
 | assign x=>rfl
 | pick c x y=>simp only [B1];rw [h c (by simp [Aa0]),h x (by simp [Aa0]),h y (by simp [Aa0])]
 | load t x=>simp only [B1];rw [h x (by simp [Aa0])]
 | nilCheck x=>simp only [B1];rw [h x (by simp [Aa0])]
 | binOp op t x y t'=>simp only [B1];rw [h x (by simp [Aa0]),h y (by simp [Aa0])]
 | unOp op t x=>simp only [B1];rw [h x (by simp [Aa0])]
 | convert s d x=>simp only [B1];rw [h x (by simp [Aa0])]
 | slice t x lo hi mx=>
  cases mx with
  | some m=>rfl
  | none=>
   simp only [B1];have e1:lo.map (opd C e')=lo.map (opd C e):=by cases lo with | none=>rfl | some y=>simp only [Aa4];rw [h y (by simp [Aa0])]
   have e2:hi.map (opd C e')=hi.map (opd C e):=by cases hi with | none=>rfl | some y=>simp only [Aa4];rw [h y (by simp [Aa0])]
   rw [h x (by simp [Aa0]),e1,e2]
 | fieldAddr t x f=>simp only [B1];rw [h x (by simp [Aa0])]
 | field t x f=>simp only [B1];rw [h x (by simp [Aa0])]
 | indexAddr t x i=>simp only [B1];rw [h x (by simp [Aa0]),h i (by simp [Aa0])]
 | index t x i=>simp only [B1];rw [h x (by simp [Aa0]),h i (by simp [Aa0])]
 | extract x i=>simp only [B1];rw [h x (by simp [Aa0])]
 | build t parts=>
  simp only [B1]
  have:(parts.toList.map fun p=>(p.1,(opd C e' p.2).shutV))=parts.toList.map fun p=>(p.1,(opd C e p.2).shutV):=by
   apply Aa1;intro p hp;rw [h p.2 (by simp only [Aa0,Aa6];exact ⟨p,hp,rfl⟩)]
  rw [this]
 | makeFunc f x y=>
  cases f with
  | func f=>
   simp only [B1]
   have e1:(x.toList.map fun z=>(opd C e' z).shutV)=x.toList.map fun z=>(opd C e z).shutV:=by
    apply Aa1;intro z hz;rw [h z (by simp [Aa0] at hz |-;exact .inl hz)]
   have e2:(y.toList.map fun z=>(opd C e' z).shutV)=y.toList.map fun z=>(opd C e z).shutV:=by
    apply Aa1;intro z hz;rw [h z (by simp [Aa0] at hz |-;exact .inr hz)]
   rw [e1,e2]
  | _=>rfl
 | call c=>
  obtain ⟨callee,args,argTypes⟩:=c;cases callee with
  | builtin b=>
   have ef:∀ x ∈ args.toList,opd C e' x=opd C e x:=fun x hx=>h x (by simp [Aa0,Aa3] at hx |-;exact hx);have hmap:args.toList.map (opd C e')=args.toList.map (opd C e):=Aa1 ef;cases b <;> try rfl
   · simp only [B1]
     cases h0:argTypes[0]? with
     | none=>rfl
     | some t=>
      cases h1:args[0]? with
      | none=>rfl
      | some x=>
       have hx:x ∈ args.toList:=by
        have:=Array.mem_of_getElem? h1;simpa using this
       simp only;rw [ef x hx]
   · simp only [B1];rw [hmap]
   · simp only [B1];rw [hmap]
  | value f=>rfl
  | invoke r m=>rfl
 | makeInterface t x=>simp only [B1];rw [h x (by simp [Aa0])]
 | _=>rfl
theorem O7 {call:Cl} {o:Oper} (hc:HA C o=true) {e:List PV} {bx:List PBox} {al:List (Nat×Loc)} {r:OpR} (hr:Bp C call true al o ⟨e,bx⟩=some r) :
 ∃ v,r=.next ((St.mk e bx).put o.dst v) (Fc o.op e o.dst++Ak al o.dst)/\∀ e' al',(∀ t ∈ tmpsOf o,getT e' t=getT e t)->Bp C call true al' o ⟨e',bx⟩=some (.next ((St.mk e' bx).put o.dst v) (Fc o.op e o.dst++Ak al' o.dst)):=by
 have cong:∀ e',(∀ t ∈ tmpsOf o,getT e' t=getT e t)->∀ x ∈ o.op.operands.toList,opd C e' x=opd C e x:=by
  intro e' he x hx;exact eM fun t ht=>he t (Z4 (by rw [<- ht];exact hx))
 unfold Bp at hr;split at hr
 · rename_i x ho
   have hn:Fc o.op e o.dst=[]:=by rw [ho];rfl
   have hns:AN C o.type=true:=by
    unfold HA at hc;rw [ho] at hc;simpa [calm] using hc
   simp only [hns,Aa5,if_true,Option.some.injEq] at hr;subst hr;refine ⟨opd C e x,by rw [hn];rfl,fun e' al' he=>?_⟩;unfold Bp;simp only [ho,hns,Aa5,if_true];rw [cong e' he x (by rw [ho];simp [Aa0])];rfl
 · rename_i t ho;unfold HA at hc;rw [ho] at hc;simp [calm] at hc
 · rename_i t x ho;unfold HA at hc;rw [ho] at hc;simp [calm] at hc
 · rename_i t ad x ho;unfold HA at hc;rw [ho] at hc;simp [calm] at hc
 · rename_i t len parts ho
   split at hr
   · rename_i v hv
     have hn:Fc o.op e o.dst=[]:=by rw [ho];rfl
     simp only [Option.some.injEq] at hr;subst hr;refine ⟨v,by rw [hn];rfl,fun e' al' he=>?_⟩;rw [hn];unfold Bp;simp only [ho]
     have:(parts.toList.map fun p=>(p.1,opd C e' p.2))=parts.toList.map fun p=>(p.1,opd C e p.2):=by
      apply Aa1;intro p hp;rw [cong e' he p.2 (by rw [ho];simp only [Aa0,Aa6];exact ⟨p,hp,rfl⟩)]
     rw [this,hv];rfl
   · cases hr
 · rename_i t l c ho;unfold HA at hc;rw [ho] at hc;simp [calm] at hc
 · rename_i t x ho;unfold HA at hc;rw [ho] at hc;simp [calm] at hc
 · rename_i x ho;unfold HA at hc;rw [ho] at hc;simp [calm] at hc
 · rename_i x ho;unfold HA at hc;rw [ho] at hc;simp [calm] at hc
 · rename_i args argTypes ho;unfold HA at hc;rw [ho] at hc;simp [calm] at hc
 · rename_i f args argTypes ho
   split at hr
   · rename_i k vs Mw
     split at hr
     · cases hr
     · rename_i mO
       have mo:VI f=true:=by
        unfold HA at hc;rw [ho] at hc;cases f <;> simp [calm,VI] at hc |-
       have mu:(C.heap k || !Al vs)=false:=by simpa [mo] using mO
       have Cq:∀ al bx,cutAt C k vs al bx=none:=fun al bx=>by
        unfold cutAt;rw [mu];cases CK al <;> rfl
       have Cq:∀ f tys al bx,JK C f tys k vs al bx=none:=fun f tys al bx=>by
        unfold JK;split
        · exact Cq al bx
        · rfl
       rw [Cq] at hr;simp only at hr;split at hr
       · rename_i v bx' Er
         have J8:bx'=bx:=by
          unfold Ai at Er;rw [mu] at Er;simp only [Aa2,if_false] at Er;split at Er
          · split at Er
            · injection Er with Er;injection Er with _ Er;exact Er.symm
            · cases Er
          · cases Er
         subst J8;have hfil:∀ al,Dr C k vs al=al:=fun al=>by unfold Dr;rw [mu];rfl
         have hn:Fc o.op e o.dst=[]:=by rw [ho];rfl
         simp only [hfil,Option.some.injEq] at hr;subst hr;refine ⟨v,by rw [hn];rfl,fun e' al' he=>?_⟩;rw [hn]
         have mv:K4 C e' { callee:=.value f,args,argTypes }=some (k,vs):=by
          rw [<- Mw];unfold K4;simp only;rw [cong e' he f (by rw [ho];simp [Aa0,Aa3])]
          have:(args.toList.map fun x=>(opd C e' x).shutV)=args.toList.map fun x=>(opd C e x).shutV:=by
           apply Aa1;intro x hx;rw [cong e' he x (by rw [ho];simp [Aa0,Aa3] at hx |-;exact .inr hx)]
          rw [this]
         unfold Bp;simp only [ho,mv,mu,Cq,Bool.and_false,Aa2,if_false,Er,hfil];rfl
       · rename_i v bx' Er
         exfalso;unfold Ai at Er;rw [mu] at Er;simp only [Aa2,if_false] at Er;split at Er
         · split at Er
           · injection Er with Er;injection Er with Er _;cases Er
           · cases Er
         · cases Er
       · cases hr
   · cases hr
 · rename_i mR xT uv hn4 hn5 hn5b hn6 hn7 hn8 hn9 hn10
   split at hr
   · rename_i v hv
     injection hr with hr
     subst hr;refine ⟨v,rfl,fun e' al' he=>?_⟩
     have hmatch:Gv C true (St.mk e' bx) o.op o.dst al'=Fc o.op e o.dst++Ak al' o.dst:=by
      have hn:Fc o.op e' o.dst=Fc o.op e o.dst:=by
       unfold Fc;split
       · rename_i t d ho hdd
         rw [he t (by unfold tmpsOf;rw [ho];simp [Aa0])]
       · rfl
      show Fc o.op e' o.dst++Ak al' o.dst=_;rw [hn]
     have Pm:B1 C bx e' o.op=some v:=by rw [VV (cong e' he)];exact hv
     unfold Bp;split
     · rename_i x ho;exact absurd ho (mR x)
     · rename_i t ho;exact absurd ho (xT t)
     · rename_i t x ho;exact absurd ho (uv t x)
     · rename_i t ad x ho;exact absurd ho (hn4 t ad x)
     · rename_i t len parts ho;exact absurd ho (hn5 t len parts)
     · rename_i t l c ho;exact absurd ho (hn5b t l c)
     · rename_i t x ho;exact absurd ho (hn6 t x)
     · rename_i x ho;exact absurd ho (hn7 x)
     · rename_i x ho;exact absurd ho (hn8 x)
     · rename_i x y ho;exact absurd ho (hn9 x y)
     · rename_i x y z ho;exact absurd ho (hn10 x y z)
     · rw [Pm]
       simp only [hmatch]
   · cases hr
end
end Go.HH
