/-
  What the law needs, packed: Step.
-/
import Derived.Test.YthjcaihemgllaaaGreatDoorK8
open Go.Result renaming andThen_ok->Aau
open Go.Sem renaming run_bind->Aav,run_pure->Aaw
open Option renaming map_eq_some_iff->Aax,bind_eq_some_iff->Ab0,pure_def->Ab2
open Array renaming getElem_toList->Aay,getElem_map->Ab1
open List renaming getElem_map->Aaz,foldlM_cons->Ab3,foldlM_nil->Ab4,mem_map->Ab5
namespace Go.HH
open Go Go.RowKit
section
variable {C:Cfg} {D:List Deferred} {B:Nat} {T:Nat->Prop} {S:AJ} {M:List Nat} {n:Nat} {st:St} {a:Act} {w:World}
theorem L6 (p:PV) (e:TypeId) (xs:List PV):p.ro≠.osl e xs:=by cases p <;> simp [PV.ro]
theorem D2 {t:TypeId} {cs:List PV} {p:PV} (h:readCells C t cs=some p) (e:TypeId) (xs:List PV):p≠.osl e xs:=by
 unfold readCells at h;split at h
 · cases h
 · split at h
   · split at h
     · split at h
       · injection h with h;subst h;simp
       · cases h
     · cases h
   · obtain ⟨q,_,rfl⟩:=Aax.1 h
     exact L6 q e xs
theorem Q5 {bx:List PBox} {env:List PV} {op:Op} {p:PV} (h:BZ C bx env op=some p) (e:TypeId) (xs:List PV):p≠.osl e xs:=by
 unfold BZ at h;split at h
 · injection h with h;subst h;exact ET _ _ _ _
 · split at h
   · injection h with h;subst h;split <;> exact ET _ _ _ _
   · cases h
 · unfold G2 at h
   split at h
   · exact D2 h e xs
   · split at h
     · exact D2 h e xs
     · cases h
   · cases h
 · split at h <;> first | (injection h with h;subst h;simp) | cases h
 · rename_i op t x y _
   unfold D6 at h;have hs:∀ k a b,Kg op k a b≠some (.osl e xs):=by intro k a b;unfold Kg;split <;> (try split) <;> simp
   have hi:∀ k a b,D5 op k a b≠some (.osl e xs):=by intro k a b;unfold D5;cases op <;> simp [LI] <;> split <;> simp
   have EC:∀ a b,ED op a b≠some (.osl e xs):=by intro a b;unfold ED;cases op <;> simp
   intro hp;subst hp;split at h
   · split at h
     · exact hs _ _ _ h
     · split at h
       · exact hi _ _ _ h
       · cases h
   · exact EC _ _ h
   · split at h <;> simp at h
   · split at h
     · cases h
     · split at h <;> simp at h
   · split at h <;> simp at h
   · split at h <;> simp at h
   · cases h
 · rename_i op t x
   intro hp;subst hp;unfold nQ at h;split at h
   · split at h <;> simp [LI] at h
   · split at h <;> simp at h
   · cases h
 · intro hp;subst hp
   unfold Gh at h;split at h
   · simp at h
   · simp at h
   · split at h
     · simp at h
     · cases h
   · cases h
 · intro hp;subst hp
   unfold FW at h;split at h
   · split at h
     · split at h <;> simp at h
     · cases h
   · split at h
     · split at h
       · split at h
         · split at h <;> simp at h
         · cases h
       · cases h
     · cases h
   · cases h
 · intro hp;subst hp
   unfold AG at h;split at h
   · split at h
     · split at h
       · split at h <;> simp at h
       · cases h
     · cases h
   · cases h
 · unfold Bj at h
   split at h
   · split at h
     · exact D2 h e xs
     · cases h
   · cases h
 · intro hp;subst hp
   unfold EL at h;split at h
   · split at h
     · cases h
     · split at h
       · split at h
         · split at h
           · split at h <;> simp at h
           · cases h
         · cases h
       · split at h
         · split at h
           · split at h <;> simp at h
           · cases h
         · cases h
       · cases h
   · cases h
 · unfold Dy at h
   split at h
   · split at h
     · cases h
     · split at h
       · split at h
         · injection h with h;subst h;simp
         · cases h
       · split at h
         · split at h
           · exact D2 h e xs
           · cases h
         · cases h
       · cases h
   · cases h
 · split at h
   · obtain ⟨q,_,rfl⟩:=Aax.1 h
     exact L6 q e xs
   · cases h
 · intro hp;subst hp
   unfold A' at h;split at h
   · split at h
     · split at h <;> simp at h
     · cases h
   · split at h
     · split at h <;> simp at h
     · cases h
   · cases h
 · injection h with h;subst h;simp
 · intro hp;subst hp
   split at h
   · unfold Tq at h
     split at h <;> simp at h
   · cases h
 · have key:∀ (l:List PV) (x:PV),(∀ e xs,x≠.osl e xs)->l.foldlM (fun a b=>match a,b with
    | .int k x,.int k' y=>if k=k' then some (.int k (if y > x then y else x)) else none
    | _,_=>none) x=some p->p≠.osl e xs:=by
    intro l
    induction l with
    | nil=>intro x hx h;simp only [Ab4,Ab2,Option.some.injEq] at h;subst h;exact hx _ _
    | cons y l ih=>
     intro x hx h;simp only [Ab3] at h;obtain ⟨z,hz,h⟩:=Ab0.1 h;refine ih z ?_ h;split at hz
     · split at hz
       · injection hz with hz;subst hz;simp
       · cases hz
     · cases hz
   unfold nR at h;split at h
   · cases h
   · rename_i args _ _ x r uS
     refine key r x ?_ h;intro e' xs';have:x ∈ args.toList.map (opd C env):=by rw [uS];simp
     obtain ⟨o,_,rfl⟩:=Ab5.1 this;exact ET _ _ _ _
 · have key:∀ (l:List PV) (x:PV),(∀ e xs,x≠.osl e xs)->l.foldlM (fun a b=>match a,b with
    | .int k x,.int k' y=>if k=k' then some (.int k (if y < x then y else x)) else none
    | _,_=>none) x=some p->p≠.osl e xs:=by
    intro l
    induction l with
    | nil=>intro x hx h;simp only [Ab4,Ab2,Option.some.injEq] at h;subst h;exact hx _ _
    | cons y l ih=>
     intro x hx h;simp only [Ab3] at h;obtain ⟨z,hz,h⟩:=Ab0.1 h;refine ih z ?_ h;split at hz
     · split at hz
       · injection hz with hz;subst hz;simp
       · cases hz
     · cases hz
   unfold nS at h;split at h
   · cases h
   · rename_i args _ _ x r uS
     refine key r x ?_ h;intro e' xs';have:x ∈ args.toList.map (opd C env):=by rw [uS];simp
     obtain ⟨o,_,rfl⟩:=Ab5.1 this;exact ET _ _ _ _
 · unfold mkIf at h
   split at h <;> simp at h;subst h;simp
 · cases h
theorem au (parts:Array (Nat×Operand)) (g:Operand->Value) (i:Nat) (h:i < (parts.map fun (x:Nat×Operand)=>(x.1,g x.2)).size) :
 (parts.map fun (x:Nat×Operand)=>(x.1,g x.2))[i]=((parts[i]'(by simpa using h)).1,g (parts[i]'(by simpa using h)).2):=by simp
theorem aw (h:Sim C D B T S M n st a w) {o:Oper} {p:PV} (hp:BZ C st.bx st.env o.op=some p) :
 ∃ v,(execOp a.eval o).run C.P w=.ok (.value v) w/\Rep S M p v:=by
 unfold BZ at hp;unfold execOp;split at hp
 · rename_i x ho
   injection hp with hp;subst hp
   exact ⟨_,by rw [ho];rfl,h.opd x⟩
 · rename_i c x y ho
   have hc:=h.opd c;split at hp
   · rename_i t ht
     rw [ht] at hc;injection hp with hp;subst hp
     refine ⟨if t then a.eval x else a.eval y,?_,?_⟩
     · rw [ho];simp only [hc.bool_inv];cases t <;> simp [asBool]
     · cases t
       · exact h.opd y
       · exact h.opd x
   · cases hp
 · rename_i t x ho
   obtain ⟨v,hv,rv⟩:=U0 h hp;exact ⟨v,by rw [ho];simp [hv],rv⟩
 · rename_i x ho
   have hx:=h.opd x;split at hp
   · rename_i cs JQ
     injection hp with hp;subst hp
     rw [JQ] at hx;obtain ⟨b,o,hv,_⟩:=hx.ip_cells;exact ⟨_,by rw [ho];simp only [hv];rfl,by rw [<- hv];exact hx⟩
   · rename_i id off JQ
     injection hp with hp;subst hp
     rw [JQ] at hx;obtain ⟨b,_,hv⟩:=hx.bp_inv;exact ⟨_,by rw [ho];simp only [hv];rfl,by rw [<- hv];exact hx⟩
   · rename_i f x1 x2 JQ
     injection hp with hp;subst hp
     rw [JQ] at hx;obtain ⟨va,vc,hv,_,_⟩:=hx.fn_inv;exact ⟨_,by rw [ho];simp only [hv];rfl,by rw [<- hv];exact hx⟩
   · cases hp
 · rename_i op t x y ty ho
   obtain ⟨v,hv,rv⟩:=iS (w:=w) x y hp (h.opd x) (h.opd y);exact ⟨v,by rw [ho];simp only [Aav,hv,Aau,Aaw],rv⟩
 · rename_i op t x ho
   obtain ⟨v,hv,rv⟩:=nV (C:=C) (w:=w) hp (h.opd x);exact ⟨v,by rw [ho];simp only [Aav,hv,Aau,Aaw],rv⟩
 · rename_i s d x ho
   obtain ⟨v,hv,rv⟩:=fg (w:=w) hp (h.opd x) h.holds;exact ⟨v,by rw [ho];simp only [Aav,hv,Aau,Aaw],rv⟩
 · rename_i t x lo hi ho
   obtain ⟨v,hv,rv⟩:=ah (w:=w) (vlo:=lo.map a.eval) (vhi:=hi.map a.eval) hp (h.opd x)
    (fun p hp=>by cases lo with
     | none=>simp at hp
     | some q=>simp at hp;subst hp;exact ⟨_,rfl,h.opd q⟩) (fun e=>by cases lo <;> simp_all)
    (fun p hp=>by cases hi with
     | none=>simp at hp
     | some q=>simp at hp;subst hp;exact ⟨_,rfl,h.opd q⟩) (fun e=>by cases hi <;> simp_all)
   exact ⟨v,by rw [ho];simp only [Option.map_none,Aav,hv,Aau,Aaw],rv⟩
 · rename_i s x f ho
   obtain ⟨v,hv,rv⟩:=ai (w:=w) hp (h.opd x);exact ⟨v,by rw [ho];simp only [Aav,hv,Aau,Aaw],rv⟩
 · rename_i s x f ho
   obtain ⟨v,hv,rv⟩:=aj (w:=w) hp (h.opd x);exact ⟨v,by rw [ho];simp only [Aav,hv,Aau,Aaw],rv⟩
 · rename_i t x i ho
   obtain ⟨v,hv,rv⟩:=Q4 (w:=w) hp (h.opd x) (h.opd i);exact ⟨v,by rw [ho];simp only [Aav,hv,Aau,Aaw],rv⟩
 · rename_i t x i ho
   obtain ⟨v,hv,rv⟩:=ao (w:=w) hp (h.opd x) (h.opd i);exact ⟨v,by rw [ho];simp only [Aav,hv,Aau,Aaw],rv⟩
 · rename_i x i ho
   have hx:=h.opd x;split at hp
   · rename_i vs cx
     rw [cx] at hx;obtain ⟨q,hq,rfl⟩:=Aax.1 hp;obtain ⟨us,hv,l,hr⟩:=hx.tup_inv
     have hi:i < vs.length:=by
      rcases Nat.lt_or_ge i vs.length with hh | hh
      · exact hh
      · rw [List.getElem?_eq_none hh] at hq;cases hq
     rw [List.getElem?_eq_getElem hi] at hq;injection hq with hq
     have hu:us[i]?=some (us[i]'(by omega)):=Array.getElem?_eq_getElem (by omega);refine ⟨us[i]'(by omega),?_,?_⟩
     · rw [ho];simp only [hv,Instr.extract,hu,Aav,Aaw,Aau]
     · rw [<- hq];exact (hr i hi (by omega)).ro
   · cases hp
 · rename_i t parts ho
   obtain ⟨v,hv,rv⟩:=ar (w:=w) (vparts:=parts.map fun (x:Nat×Operand)=>(x.1,a.eval x.2)) hp (by simp) (fun i h1 h2=>by
    rw [au];simp only [Aaz,Aay];exact ⟨trivial,(h.opd _).shutV⟩)
   exact ⟨v,by rw [ho];simp only [Aav];rw [show (parts.map fun x=>match x with | (i,x)=>(i,a.eval x))=(parts.map fun (x:Nat×Operand)=>(x.1,a.eval x.2)) from rfl,hv];rfl,rv⟩
 · rename_i f first captured ho
   injection hp with hp;subst hp
   refine ⟨.func (.func f) (first.map a.eval) (captured.map a.eval),by rw [ho];rfl,?_⟩;refine .fn _ _ _ _ _ (by simp) (by simp) (fun i h1 h2=>?_) (fun i h1 h2=>?_)
   · simp only [Aaz,Ab1,Aay];exact (h.opd _).shutV
   · simp only [Aaz,Ab1,Aay];exact (h.opd _).shutV
 · rename_i args argTypes ho
   split at hp
   · rename_i t x h1 h2
     obtain ⟨v,hv,rv⟩:=iT (w:=w) (ty:=o.type) (ats:=argTypes) (vs:=args.map a.eval) h1 (by simp [h2]) hp (h.opd x);exact ⟨v,by rw [ho];simp only [resolve,invoke,builtin,Aav,Aaw,Aau,hv],rv⟩
   · cases hp
 · rename_i args argTypes ho
   unfold nR at hp;split at hp
   · cases hp
   · rename_i x r uS
     have hl:=h.opdL args.toList;rw [uS] at hl;cases cx:args.toList.map a.eval with
     | nil=>rw [cx] at hl;exact absurd hl.1 (by simp)
     | cons u us=>
      rw [cx] at hl;obtain ⟨hx,hr⟩:=hl.cons_inv;obtain ⟨v,hv,rv⟩:=X0 (C:=C) (w:=w) r us x u p hr hx hp;refine ⟨v,?_,rv⟩;have e:(args.map a.eval).toList=u :: us:=by simpa using cx
      rw [ho];simp only [resolve,invoke,builtin,Builtin.max_,e,Aav,Aaw,Aau,hv]
 · rename_i args argTypes ho
   unfold nS at hp;split at hp
   · cases hp
   · rename_i x r uS
     have hl:=h.opdL args.toList;rw [uS] at hl;cases cx:args.toList.map a.eval with
     | nil=>rw [cx] at hl;exact absurd hl.1 (by simp)
     | cons u us=>
      rw [cx] at hl;obtain ⟨hx,hr⟩:=hl.cons_inv;obtain ⟨v,hv,rv⟩:=X1 (C:=C) (w:=w) r us x u p hr hx hp;refine ⟨v,?_,rv⟩;have e:(args.map a.eval).toList=u :: us:=by simpa using cx
      rw [ho];simp only [resolve,invoke,builtin,Builtin.min_,e,Aav,Aaw,Aau,hv]
 · rename_i t x ho
   unfold mkIf at hp;split at hp
   · cases hp
   · cases hp
   · rename_i d ze hd
     injection hp with hp;subst hp
     refine ⟨.iface t (a.eval x),?_,.iface t _ _ (h.opd x).shutV⟩;rw [ho];simp only [Instr.makeInterface,Aav,AH hd,Aau];cases d with
     | interface _=>exact absurd rfl (ze _)
     | _=>rfl
 · cases hp
end
end Go.HH
