/-
  What the law needs, packed: Step.
-/
import Derived.Test.YtmiilonaehgplaaM8
namespace Go.HH
open Go Go.RowKit
section
variable {C:Cfg} {D:List Deferred} {B:Nat} {T:Nat->Prop} {S:Store} {M:List Nat} {n:Nat} {st:St} {a:Act} {w:World}
theorem ro_not_osl (p:PV) (e:TypeId) (xs:List PV):p.ro≠.osl e xs:=by cases p <;> simp [PV.ro]
theorem readCells_not_osl {t:TypeId} {cs:List PV} {p:PV} (h:readCells C t cs=some p) (e:TypeId) (xs:List PV):p≠.osl e xs:=by
 unfold readCells at h
 split at h
 · cases h
 · split at h
   · split at h
     · split at h
       · injection h with h;subst h;simp
       · cases h
     · cases h
   · obtain ⟨q,_,rfl⟩:=Option.map_eq_some_iff.1 h
     exact ro_not_osl q e xs
theorem pureOp_not_osl {bx:List PBox} {env:List PV} {op:Op} {p:PV} (h:pureOp C bx env op=some p) (e:TypeId) (xs:List PV):p≠.osl e xs:=by
 unfold pureOp at h
 split at h
 · injection h with h;subst h;exact opd_not_osl _ _ _ _
 · split at h
   · injection h with h;subst h;split <;> exact opd_not_osl _ _ _ _
   · cases h
 · unfold loadP at h
   split at h
   · exact readCells_not_osl h e xs
   · split at h
     · exact readCells_not_osl h e xs
     · cases h
   · cases h
 · split at h <;> first | (injection h with h;subst h;simp) | cases h
 · rename_i op t x y _
   unfold binP at h
   have hs:∀ k a b,shiftP op k a b≠some (.osl e xs):=by intro k a b;unfold shiftP;split <;> (try split) <;> simp
   have hi:∀ k a b,intP op k a b≠some (.osl e xs):=by intro k a b;unfold intP;cases op <;> simp [bitsP] <;> split <;> simp
   have hst:∀ a b,strP op a b≠some (.osl e xs):=by intro a b;unfold strP;cases op <;> simp
   intro hp
   subst hp
   split at h
   · split at h
     · exact hs _ _ _ h
     · split at h
       · exact hi _ _ _ h
       · cases h
   · exact hst _ _ h
   · split at h <;> simp at h
   · split at h
     · cases h
     · split at h <;> simp at h
   · split at h <;> simp at h
   · split at h <;> simp at h
   · cases h
 · rename_i op t x
   intro hp;subst hp
   unfold unP at h
   split at h
   · split at h <;> simp [bitsP] at h
   · split at h <;> simp at h
   · cases h
 · intro hp;subst hp
   unfold convP at h
   split at h
   · simp at h
   · simp at h
   · split at h
     · simp at h
     · cases h
   · cases h
 · intro hp;subst hp
   unfold sliceP at h
   split at h
   · split at h
     · split at h <;> simp at h
     · cases h
   · split at h
     · split at h
       · split at h
         · split at h <;> simp at h
         · cases h
       · cases h
     · cases h
   · cases h
 · intro hp;subst hp
   unfold fieldP at h
   split at h
   · split at h
     · split at h
       · split at h <;> simp at h
       · cases h
     · cases h
   · cases h
 · unfold fieldV at h
   split at h
   · split at h
     · exact readCells_not_osl h e xs
     · cases h
   · cases h
 · intro hp;subst hp
   unfold indexAddrP at h
   split at h
   · split at h
     · cases h
     · split at h
       · split at h
         · split at h
           · split at h <;> simp at h
           · cases h
         · split at h
           · split at h <;> simp at h
           · cases h
         · cases h
       · split at h
         · split at h
           · split at h <;> simp at h
           · cases h
         · cases h
       · cases h
   · cases h
 · unfold indexV at h
   split at h
   · split at h
     · cases h
     · split at h
       · split at h
         · injection h with h;subst h;simp
         · cases h
       · split at h
         · split at h
           · exact readCells_not_osl h e xs
           · cases h
         · cases h
       · cases h
   · cases h
 · split at h
   · obtain ⟨q,_,rfl⟩:=Option.map_eq_some_iff.1 h
     exact ro_not_osl q e xs
   · cases h
 · intro hp;subst hp
   unfold buildP at h
   split at h
   · split at h
     · split at h <;> simp at h
     · cases h
   · split at h
     · split at h <;> simp at h
     · cases h
   · cases h
 · injection h with h;subst h;simp
 · intro hp;subst hp
   split at h
   · unfold lenP at h
     split at h <;> simp at h
   · cases h
 · have key:∀ (l:List PV) (x:PV),(∀ e xs,x≠.osl e xs)->l.foldlM (fun a b=>match a,b with
    | .int k x,.int k' y=>if k=k' then some (.int k (if y > x then y else x)) else none
    | _,_=>none) x=some p->p≠.osl e xs:=by
    intro l
    induction l with
    | nil=>intro x hx h;simp only [List.foldlM_nil,Option.pure_def,Option.some.injEq] at h;subst h;exact hx _ _
    | cons y l ih=>
     intro x hx h
     simp only [List.foldlM_cons] at h
     obtain ⟨z,hz,h⟩:=Option.bind_eq_some_iff.1 h
     refine ih z ?_ h
     split at hz
     · split at hz
       · injection hz with hz;subst hz;simp
       · cases hz
     · cases hz
   unfold maxP at h
   split at h
   · cases h
   · rename_i args _ _ x r hxr
     refine key r x ?_ h
     intro e' xs'
     have:x ∈ args.toList.map (opd C env):=by rw [hxr];simp
     obtain ⟨o,_,rfl⟩:=List.mem_map.1 this
     exact opd_not_osl _ _ _ _
 · have key:∀ (l:List PV) (x:PV),(∀ e xs,x≠.osl e xs)->l.foldlM (fun a b=>match a,b with
    | .int k x,.int k' y=>if k=k' then some (.int k (if y < x then y else x)) else none
    | _,_=>none) x=some p->p≠.osl e xs:=by
    intro l
    induction l with
    | nil=>intro x hx h;simp only [List.foldlM_nil,Option.pure_def,Option.some.injEq] at h;subst h;exact hx _ _
    | cons y l ih=>
     intro x hx h
     simp only [List.foldlM_cons] at h
     obtain ⟨z,hz,h⟩:=Option.bind_eq_some_iff.1 h
     refine ih z ?_ h
     split at hz
     · split at hz
       · injection hz with hz;subst hz;simp
       · cases hz
     · cases hz
   unfold minP at h
   split at h
   · cases h
   · rename_i args _ _ x r hxr
     refine key r x ?_ h
     intro e' xs'
     have:x ∈ args.toList.map (opd C env):=by rw [hxr];simp
     obtain ⟨o,_,rfl⟩:=List.mem_map.1 this
     exact opd_not_osl _ _ _ _
 · unfold mkIf at h
   split at h <;> simp at h
   subst h
   simp
 · cases h
theorem vparts_get (parts:Array (Nat×Operand)) (g:Operand->Value) (i:Nat) (h:i < (parts.map fun (x:Nat×Operand)=>(x.1,g x.2)).size) :
 (parts.map fun (x:Nat×Operand)=>(x.1,g x.2))[i]=((parts[i]'(by simpa using h)).1,g (parts[i]'(by simpa using h)).2):=by simp
theorem pureOp_run (h:Sim C D B T S M n st a w) {o:Oper} {p:PV} (hp:pureOp C st.bx st.env o.op=some p) :
 ∃ v,(execOp a.eval o).run C.P w=.ok (.value v) w∧Rep S M p v:=by
 unfold pureOp at hp
 unfold execOp
 split at hp
 · rename_i x ho
   injection hp with hp;subst hp
   exact ⟨_,by rw [ho];rfl,h.opd x⟩
 · rename_i c x y ho
   have hc:=h.opd c
   split at hp
   · rename_i t ht
     rw [ht] at hc
     injection hp with hp;subst hp
     refine ⟨if t then a.eval x else a.eval y,?_,?_⟩
     · rw [ho];simp only [hc.bool_inv];cases t <;> simp [asBool]
     · cases t
       · exact h.opd y
       · exact h.opd x
   · cases hp
 · rename_i t x ho
   obtain ⟨v,hv,rv⟩:=loadP_run h hp
   exact ⟨v,by rw [ho];simp [hv],rv⟩
 · rename_i x ho
   have hx:=h.opd x
   split at hp
   · rename_i cs hcs
     injection hp with hp;subst hp
     rw [hcs] at hx
     obtain ⟨b,o,hv,_⟩:=hx.ip_cells
     exact ⟨_,by rw [ho];simp only [hv];rfl,by rw [<- hv];exact hx⟩
   · rename_i id off hcs
     injection hp with hp;subst hp
     rw [hcs] at hx
     obtain ⟨b,_,hv⟩:=hx.bp_inv
     exact ⟨_,by rw [ho];simp only [hv];rfl,by rw [<- hv];exact hx⟩
   · rename_i f x1 x2 hcs
     injection hp with hp;subst hp
     rw [hcs] at hx
     obtain ⟨va,vc,hv,_,_⟩:=hx.fn_inv
     exact ⟨_,by rw [ho];simp only [hv];rfl,by rw [<- hv];exact hx⟩
   · cases hp
 · rename_i op t x y ty ho
   obtain ⟨v,hv,rv⟩:=binP_run (w:=w) x y hp (h.opd x) (h.opd y)
   exact ⟨v,by rw [ho];simp only [Sem.run_bind,hv,Result.andThen_ok,Sem.run_pure],rv⟩
 · rename_i op t x ho
   obtain ⟨v,hv,rv⟩:=unP_run (C:=C) (w:=w) hp (h.opd x)
   exact ⟨v,by rw [ho];simp only [Sem.run_bind,hv,Result.andThen_ok,Sem.run_pure],rv⟩
 · rename_i s d x ho
   obtain ⟨v,hv,rv⟩:=convP_run (w:=w) hp (h.opd x) h.holds
   exact ⟨v,by rw [ho];simp only [Sem.run_bind,hv,Result.andThen_ok,Sem.run_pure],rv⟩
 · rename_i t x lo hi ho
   obtain ⟨v,hv,rv⟩:=sliceP_run (w:=w) (vlo:=lo.map a.eval) (vhi:=hi.map a.eval) hp (h.opd x)
    (fun p hp=>by cases lo with
     | none=>simp at hp
     | some q=>simp at hp;subst hp;exact ⟨_,rfl,h.opd q⟩) (fun e=>by cases lo <;> simp_all)
    (fun p hp=>by cases hi with
     | none=>simp at hp
     | some q=>simp at hp;subst hp;exact ⟨_,rfl,h.opd q⟩) (fun e=>by cases hi <;> simp_all)
   exact ⟨v,by rw [ho];simp only [Option.map_none,Sem.run_bind,hv,Result.andThen_ok,Sem.run_pure],rv⟩
 · rename_i s x f ho
   obtain ⟨v,hv,rv⟩:=fieldP_run (w:=w) hp (h.opd x)
   exact ⟨v,by rw [ho];simp only [Sem.run_bind,hv,Result.andThen_ok,Sem.run_pure],rv⟩
 · rename_i s x f ho
   obtain ⟨v,hv,rv⟩:=fieldV_run (w:=w) hp (h.opd x)
   exact ⟨v,by rw [ho];simp only [Sem.run_bind,hv,Result.andThen_ok,Sem.run_pure],rv⟩
 · rename_i t x i ho
   obtain ⟨v,hv,rv⟩:=indexAddrP_run (w:=w) hp (h.opd x) (h.opd i)
   exact ⟨v,by rw [ho];simp only [Sem.run_bind,hv,Result.andThen_ok,Sem.run_pure],rv⟩
 · rename_i t x i ho
   obtain ⟨v,hv,rv⟩:=indexV_run (w:=w) hp (h.opd x) (h.opd i)
   exact ⟨v,by rw [ho];simp only [Sem.run_bind,hv,Result.andThen_ok,Sem.run_pure],rv⟩
 · rename_i x i ho
   have hx:=h.opd x
   split at hp
   · rename_i vs hvs
     rw [hvs] at hx
     obtain ⟨q,hq,rfl⟩:=Option.map_eq_some_iff.1 hp
     obtain ⟨us,hv,l,hr⟩:=hx.tup_inv
     have hi:i < vs.length:=by
      rcases Nat.lt_or_ge i vs.length with hh | hh
      · exact hh
      · rw [List.getElem?_eq_none hh] at hq;cases hq
     rw [List.getElem?_eq_getElem hi] at hq
     injection hq with hq
     have hu:us[i]?=some (us[i]'(by omega)):=Array.getElem?_eq_getElem (by omega)
     refine ⟨us[i]'(by omega),?_,?_⟩
     · rw [ho];simp only [hv,Instr.extract,hu,Sem.run_bind,Sem.run_pure,Result.andThen_ok]
     · rw [<- hq];exact (hr i hi (by omega)).ro
   · cases hp
 · rename_i t parts ho
   obtain ⟨v,hv,rv⟩:=buildP_run (w:=w) (vparts:=parts.map fun (x:Nat×Operand)=>(x.1,a.eval x.2)) hp (by simp) (fun i h1 h2=>by
    rw [vparts_get]
    simp only [List.getElem_map,Array.getElem_toList]
    exact ⟨trivial,(h.opd _).shutV⟩)
   exact ⟨v,by rw [ho];simp only [Sem.run_bind];rw [show (parts.map fun x=>match x with | (i,x)=>(i,a.eval x))=(parts.map fun (x:Nat×Operand)=>(x.1,a.eval x.2)) from rfl,hv];rfl,rv⟩
 · rename_i f first captured ho
   injection hp with hp;subst hp
   refine ⟨.func (.func f) (first.map a.eval) (captured.map a.eval),by rw [ho];rfl,?_⟩
   refine .fn _ _ _ _ _ (by simp) (by simp) (fun i h1 h2=>?_) (fun i h1 h2=>?_)
   · simp only [List.getElem_map,Array.getElem_map,Array.getElem_toList];exact (h.opd _).shutV
   · simp only [List.getElem_map,Array.getElem_map,Array.getElem_toList];exact (h.opd _).shutV
 · rename_i args argTypes ho
   split at hp
   · rename_i t x h1 h2
     obtain ⟨v,hv,rv⟩:=lenP_run (w:=w) (ty:=o.type) (ats:=argTypes) (vs:=args.map a.eval) h1 (by simp [h2]) hp (h.opd x)
     exact ⟨v,by rw [ho];simp only [resolve,invoke,builtin,Sem.run_bind,Sem.run_pure,Result.andThen_ok,hv],rv⟩
   · cases hp
 · rename_i args argTypes ho
   unfold maxP at hp
   split at hp
   · cases hp
   · rename_i x r hxr
     have hl:=h.opdL args.toList
     rw [hxr] at hl
     cases hvs:args.toList.map a.eval with
     | nil=>rw [hvs] at hl;exact absurd hl.1 (by simp)
     | cons u us=>
      rw [hvs] at hl
      obtain ⟨hx,hr⟩:=hl.cons_inv
      obtain ⟨v,hv,rv⟩:=maxP_run (C:=C) (w:=w) r us x u p hr hx hp
      refine ⟨v,?_,rv⟩
      have e:(args.map a.eval).toList=u :: us:=by simpa using hvs
      rw [ho];simp only [resolve,invoke,builtin,Builtin.max_,e,Sem.run_bind,Sem.run_pure,Result.andThen_ok,hv]
 · rename_i args argTypes ho
   unfold minP at hp
   split at hp
   · cases hp
   · rename_i x r hxr
     have hl:=h.opdL args.toList
     rw [hxr] at hl
     cases hvs:args.toList.map a.eval with
     | nil=>rw [hvs] at hl;exact absurd hl.1 (by simp)
     | cons u us=>
      rw [hvs] at hl
      obtain ⟨hx,hr⟩:=hl.cons_inv
      obtain ⟨v,hv,rv⟩:=minP_run (C:=C) (w:=w) r us x u p hr hx hp
      refine ⟨v,?_,rv⟩
      have e:(args.map a.eval).toList=u :: us:=by simpa using hvs
      rw [ho];simp only [resolve,invoke,builtin,Builtin.min_,e,Sem.run_bind,Sem.run_pure,Result.andThen_ok,hv]
 · rename_i t x ho
   unfold mkIf at hp
   split at hp
   · cases hp
   · cases hp
   · rename_i d hni hd
     injection hp with hp;subst hp
     refine ⟨.iface t (a.eval x),?_,.iface t _ _ (h.opd x).shutV⟩
     rw [ho]
     simp only [Instr.makeInterface,Sem.run_bind,run_underlying' hd,Result.andThen_ok]
     cases d with
     | interface _=>exact absurd rfl (hni _)
     | _=>rfl
 · cases hp
end
end Go.HH
