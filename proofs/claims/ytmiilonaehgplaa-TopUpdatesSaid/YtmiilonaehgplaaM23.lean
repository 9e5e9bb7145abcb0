/-
  What the law needs, packed: Draw2.
-/
import Derived.Test.YtmiilonaehgplaaM22
namespace Go.HH
open Go Go.RowKit
section
variable {C:Cfg} {D:List Deferred} {B:Nat} {T:Nat->Prop} {S:Store} {M:List Nat} {n:Nat} {a:Act} {w:World}
theorem Sim.congrEnv {e e':List PV} {bx:List PBox} (h:Sim C D B T S M n ⟨e,bx⟩ a w) (he:∀ t,getT e' t=getT e t):Sim C D B T S M n ⟨e',bx⟩ a w:=by
 have loc:∀ l x xs v,LocAt ⟨e',bx⟩ M a w l (.osl x xs) v->LocAt ⟨e,bx⟩ M a w l (.osl x xs) v:=by
  intro l x xs v hl
  cases l with
  | tmp t=>obtain ⟨h1,h2⟩:=hl;simp only at h1;rw [he] at h1;exact ⟨h1,h2⟩
  | box id off=>exact hl
 exact ⟨h.holds,h.glob,h.gw,h.size,h.dfr,fun t=>by simp only;rw [he];exact h.env t,h.mlen,h.boxes,h.nodup,h.mS,h.mT,h.hB,fun l x xs v hl=>h.own l x xs v (loc _ _ _ _ hl),
  fun l l' x x' xs xs' v v' g hl hl'=>h.apart l l' x x' xs xs' v v' g (loc _ _ _ _ hl) (loc _ _ _ _ hl')⟩
theorem opd_congr {e e':List PV} {x:Operand} (h:∀ t,x=.tmp t->getT e' t=getT e t):opd C e' x=opd C e x:=by
 unfold opd raw
 cases x with
 | tmp t=>simp only;rw [h t rfl]
 | const v=>rfl
 | global g=>rfl
 | func f=>rfl
theorem tmpsOf_mem {o:Oper} {t:Tmp} (h:.tmp t ∈ o.op.operands.toList):t ∈ tmpsOf o:=by
 unfold tmpsOf
 rw [List.mem_filterMap]
 exact ⟨.tmp t,h,rfl⟩
theorem pureOp_congr {bx:List PBox} {e e':List PV} {op:Op} (h:∀ x ∈ op.operands.toList,opd C e' x=opd C e x):pureOp C bx e' op=pureOp C bx e op:=by
 cases op with
 | move x=>simp only [pureOp];rw [h x (by simp [Op.operands])]
 | assign x=>rfl
 | pick c x y=>simp only [pureOp];rw [h c (by simp [Op.operands]),h x (by simp [Op.operands]),h y (by simp [Op.operands])]
 | load t x=>simp only [pureOp];rw [h x (by simp [Op.operands])]
 | nilCheck x=>simp only [pureOp];rw [h x (by simp [Op.operands])]
 | binOp op t x y t'=>simp only [pureOp];rw [h x (by simp [Op.operands]),h y (by simp [Op.operands])]
 | unOp op t x=>simp only [pureOp];rw [h x (by simp [Op.operands])]
 | convert s d x=>simp only [pureOp];rw [h x (by simp [Op.operands])]
 | slice t x lo hi mx=>
  cases mx with
  | some m=>rfl
  | none=>
   simp only [pureOp]
   have e1:lo.map (opd C e')=lo.map (opd C e):=by cases lo with | none=>rfl | some y=>simp only [Option.map_some];rw [h y (by simp [Op.operands])]
   have e2:hi.map (opd C e')=hi.map (opd C e):=by cases hi with | none=>rfl | some y=>simp only [Option.map_some];rw [h y (by simp [Op.operands])]
   rw [h x (by simp [Op.operands]),e1,e2]
 | fieldAddr t x f=>simp only [pureOp];rw [h x (by simp [Op.operands])]
 | field t x f=>simp only [pureOp];rw [h x (by simp [Op.operands])]
 | indexAddr t x i=>simp only [pureOp];rw [h x (by simp [Op.operands]),h i (by simp [Op.operands])]
 | index t x i=>simp only [pureOp];rw [h x (by simp [Op.operands]),h i (by simp [Op.operands])]
 | extract x i=>simp only [pureOp];rw [h x (by simp [Op.operands])]
 | build t parts=>
  simp only [pureOp]
  have:(parts.toList.map fun p=>(p.1,(opd C e' p.2).shutV))=parts.toList.map fun p=>(p.1,(opd C e p.2).shutV):=by
   apply List.map_congr_left
   intro p hp
   rw [h p.2 (by simp only [Op.operands,List.mem_map];exact ⟨p,hp,rfl⟩)]
  rw [this]
 | makeFunc f x y=>
  cases f with
  | func f=>
   simp only [pureOp]
   have e1:(x.toList.map fun z=>(opd C e' z).shutV)=x.toList.map fun z=>(opd C e z).shutV:=by
    apply List.map_congr_left;intro z hz;rw [h z (by simp [Op.operands] at hz ⊢;exact .inl hz)]
   have e2:(y.toList.map fun z=>(opd C e' z).shutV)=y.toList.map fun z=>(opd C e z).shutV:=by
    apply List.map_congr_left;intro z hz;rw [h z (by simp [Op.operands] at hz ⊢;exact .inr hz)]
   rw [e1,e2]
  | _=>rfl
 | call c=>
  obtain ⟨callee,args,argTypes⟩:=c
  cases callee with
  | builtin b=>
   have hargs:∀ x ∈ args.toList,opd C e' x=opd C e x:=fun x hx=>h x (by simp [Op.operands,Call.operands] at hx ⊢;exact hx)
   have hmap:args.toList.map (opd C e')=args.toList.map (opd C e):=List.map_congr_left hargs
   cases b <;> try rfl
   · simp only [pureOp]
     cases h0:argTypes[0]? with
     | none=>rfl
     | some t=>
      cases h1:args[0]? with
      | none=>rfl
      | some x=>
       have hx:x ∈ args.toList:=by
        have:=Array.mem_of_getElem? h1
        simpa using this
       simp only
       rw [hargs x hx]
   · simp only [pureOp];rw [hmap]
   · simp only [pureOp];rw [hmap]
  | value f=>rfl
  | invoke r m=>rfl
 | makeInterface t x=>simp only [pureOp];rw [h x (by simp [Op.operands])]
 | _=>rfl
theorem stepOp_calm {call:CallT} {o:Oper} (hc:calmO C o=true) {e:List PV} {bx:List PBox} {al:List (Nat×Loc)} {r:OpR} (hr:stepOp C call true al o ⟨e,bx⟩=some r) :
 ∃ v,r=.next ((St.mk e bx).put o.dst v) (noteD o.op e o.dst++killT al o.dst)∧∀ e' al',(∀ t ∈ tmpsOf o,getT e' t=getT e t)->stepOp C call true al' o ⟨e',bx⟩=some (.next ((St.mk e' bx).put o.dst v) (noteD o.op e o.dst++killT al' o.dst)):=by
 have cong:∀ e',(∀ t ∈ tmpsOf o,getT e' t=getT e t)->∀ x ∈ o.op.operands.toList,opd C e' x=opd C e x:=by
  intro e' he x hx
  exact opd_congr fun t ht=>he t (tmpsOf_mem (by rw [<- ht];exact hx))
 unfold stepOp at hr
 split at hr
 · rename_i x ho
   have hn:noteD o.op e o.dst=[]:=by rw [ho];rfl
   have hns:notSlice C o.type=true:=by
    unfold calmO at hc
    rw [ho] at hc
    simpa [calm] using hc
   simp only [hns,Bool.and_self,if_true,Option.some.injEq] at hr
   subst hr
   refine ⟨opd C e x,by rw [hn];rfl,fun e' al' he=>?_⟩
   unfold stepOp
   simp only [ho,hns,Bool.and_self,if_true]
   rw [cong e' he x (by rw [ho];simp [Op.operands])]
   rfl
 · rename_i t ho;unfold calmO at hc;rw [ho] at hc;simp [calm] at hc
 · rename_i t x ho;unfold calmO at hc;rw [ho] at hc;simp [calm] at hc
 · rename_i t ad x ho;unfold calmO at hc;rw [ho] at hc;simp [calm] at hc
 · rename_i t len parts ho
   split at hr
   · rename_i v hv
     have hn:noteD o.op e o.dst=[]:=by rw [ho];rfl
     simp only [Option.some.injEq] at hr
     subst hr
     refine ⟨v,by rw [hn];rfl,fun e' al' he=>?_⟩
     rw [hn]
     unfold stepOp
     simp only [ho]
     have:(parts.toList.map fun p=>(p.1,opd C e' p.2))=parts.toList.map fun p=>(p.1,opd C e p.2):=by
      apply List.map_congr_left
      intro p hp
      rw [cong e' he p.2 (by rw [ho];simp only [Op.operands,List.mem_map];exact ⟨p,hp,rfl⟩)]
     rw [this,hv]
     rfl
   · cases hr
 · rename_i t l c ho;unfold calmO at hc;rw [ho] at hc;simp [calm] at hc
 · rename_i t x ho;unfold calmO at hc;rw [ho] at hc;simp [calm] at hc
 · rename_i x ho;unfold calmO at hc;rw [ho] at hc;simp [calm] at hc
 · rename_i x ho;unfold calmO at hc;rw [ho] at hc;simp [calm] at hc
 · rename_i args argTypes ho;unfold calmO at hc;rw [ho] at hc;simp [calm] at hc
 · rename_i args argTypes ho;unfold calmO at hc;rw [ho] at hc;simp [calm] at hc
 · rename_i f args argTypes ho
   split at hr
   · rename_i k vs hcl
     split at hr
     · cases hr
     · rename_i hnb
       have hfn:isFn f=true:=by
        unfold calmO at hc
        rw [ho] at hc
        cases f <;> simp [calm,isFn] at hc ⊢
       have hnb':(C.heap k || !pureL vs)=false:=by simpa [hfn] using hnb
       have hcut:∀ al bx,cutAt C k vs al bx=none:=fun al bx=>by
        unfold cutAt
        rw [hnb']
        cases boxMin al <;> rfl
       have hcut:∀ f tys al bx,cutO C f tys k vs al bx=none:=fun f tys al bx=>by
        unfold cutO
        split
        · exact hcut al bx
        · rfl
       rw [hcut] at hr
       simp only at hr
       split at hr
       · rename_i v bx' hco
         have hbx:bx'=bx:=by
          unfold callOp at hco
          rw [hnb'] at hco
          simp only [Bool.false_eq_true,if_false] at hco
          split at hco
          · split at hco
            · injection hco with hco;injection hco with _ hco;exact hco.symm
            · cases hco
          · cases hco
         subst hbx
         have hfil:∀ al,callAl C k vs al=al:=fun al=>by unfold callAl;rw [hnb'];rfl
         have hn:noteD o.op e o.dst=[]:=by rw [ho];rfl
         simp only [hfil,Option.some.injEq] at hr
         subst hr
         refine ⟨v,by rw [hn];rfl,fun e' al' he=>?_⟩
         rw [hn]
         have hcl':calleeP C e' { callee:=.value f,args,argTypes }=some (k,vs):=by
          rw [<- hcl]
          unfold calleeP
          simp only
          rw [cong e' he f (by rw [ho];simp [Op.operands,Call.operands])]
          have:(args.toList.map fun x=>(opd C e' x).shutV)=args.toList.map fun x=>(opd C e x).shutV:=by
           apply List.map_congr_left
           intro x hx
           rw [cong e' he x (by rw [ho];simp [Op.operands,Call.operands] at hx ⊢;exact .inr hx)]
          rw [this]
         unfold stepOp
         simp only [ho,hcl',hnb',hcut,Bool.and_false,Bool.false_eq_true,if_false,hco,hfil]
         rfl
       · rename_i v bx' hco
         exfalso
         unfold callOp at hco
         rw [hnb'] at hco
         simp only [Bool.false_eq_true,if_false] at hco
         split at hco
         · split at hco
           · injection hco with hco;injection hco with hco _;cases hco
           · cases hco
         · cases hco
       · cases hr
   · cases hr
 · rename_i t ho;unfold calmO at hc;rw [ho] at hc;simp [calm] at hc
 · rename_i t x i ok ho;unfold calmO at hc;rw [ho] at hc;simp [calm] at hc
 · rename_i t m k v ho;unfold calmO at hc;rw [ho] at hc;simp [calm] at hc
 · rename_i hn1 hn2 hn3 hn4 hn5 hn5b hn6 hn7 hn8 hn9 hn9b hn10 hn11 hn12 hn13
   split at hr
   · rename_i v hv
     injection hr with hr
     subst hr
     refine ⟨v,rfl,fun e' al' he=>?_⟩
     have hmatch:noteAl C true (St.mk e' bx) o.op o.dst al'=noteD o.op e o.dst++killT al' o.dst:=by
      have hn:noteD o.op e' o.dst=noteD o.op e o.dst:=by
       unfold noteD
       split
       · rename_i t d ho hdd
         rw [he t (by unfold tmpsOf;rw [ho];simp [Op.operands])]
       · rfl
      show noteD o.op e' o.dst++killT al' o.dst=_
      rw [hn]
     have hv':pureOp C bx e' o.op=some v:=by rw [pureOp_congr (cong e' he)];exact hv
     unfold stepOp
     split
     · rename_i x ho;exact absurd ho (hn1 x)
     · rename_i t ho;exact absurd ho (hn2 t)
     · rename_i t x ho;exact absurd ho (hn3 t x)
     · rename_i t ad x ho;exact absurd ho (hn4 t ad x)
     · rename_i t len parts ho;exact absurd ho (hn5 t len parts)
     · rename_i t l c ho;exact absurd ho (hn5b t l c)
     · rename_i t x ho;exact absurd ho (hn6 t x)
     · rename_i x ho;exact absurd ho (hn7 x)
     · rename_i x ho;exact absurd ho (hn8 x)
     · rename_i x y ho;exact absurd ho (hn9 x y)
     · rename_i x y ho;exact absurd ho (hn9b x y)
     · rename_i x y z ho;exact absurd ho (hn10 x y z)
     · rename_i x ho;exact absurd ho (hn11 x)
     · rename_i x y z u ho;exact absurd ho (hn12 x y z u)
     · rename_i x y z u ho;exact absurd ho (hn13 x y z u)
     · rw [hv']
       simp only [hmatch]
   · cases hr
end
end Go.HH
