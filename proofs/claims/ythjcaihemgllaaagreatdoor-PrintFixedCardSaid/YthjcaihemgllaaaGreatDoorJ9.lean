/-
  What the law needs, packed: Step.
-/
import Derived.Test.YthjcaihemgllaaaGreatDoorJ8
open Go.Result renaming andThen_ok->Aa0
open Go.Sem renaming run_bind->Aa1,run_pure->Aa2
open Option renaming map_eq_some_iff->Aa3,bind_eq_some_iff->Aa6,pure_def->Aa8
open Array renaming getElem_toList->Aa4,getElem_map->Aa7
open List renaming getElem_map->Aa5,foldlM_cons->Aa9,foldlM_nil->Aaa,mem_map->Aab
namespace Go.HH
open Go Go.RowKit
section
variable {C:Cfg} {D:List Deferred} {B:Nat} {T:Nat->Prop} {S:AI} {M:List Nat} {n:Nat} {st:St} {a:Act} {w:World}
theorem LX (p:PV) (e:TypeId) (xs:List PV):p.ro≠.osl e xs:=by cases p <;> simp [PV.ro]
theorem D2 {t:TypeId} {cs:List PV} {p:PV} (h:readCells C t cs=some p) (e:TypeId) (xs:List PV):p≠.osl e xs:=by
 unfold readCells at h;split at h
 · cases h
 · split at h
   · split at h
     · split at h
       · injection h with h;subst h;simp
       · cases h
     · cases h
   · obtain ⟨q,_,rfl⟩:=Aa3.1 h
     exact LX q e xs
theorem QT {bx:List PBox} {env:List PV} {op:Op} {p:PV} (h:B1 C bx env op=some p) (e:TypeId) (xs:List PV):p≠.osl e xs:=by
 unfold B1 at h;split at h
 · injection h with h;subst h;exact ET _ _ _ _
 · split at h
   · injection h with h;subst h;split <;> exact ET _ _ _ _
   · cases h
 · unfold GV at h
   split at h
   · exact D2 h e xs
   · split at h
     · exact D2 h e xs
     · cases h
   · cases h
 · split at h <;> first | (injection h with h;subst h;simp) | cases h
 · rename_i op t x y _
   unfold D7 at h;have hs:∀ k a b,J9 op k a b≠some (.osl e xs):=by intro k a b;unfold J9;split <;> (try split) <;> simp
   have hi:∀ k a b,D6 op k a b≠some (.osl e xs):=by intro k a b;unfold D6;cases op <;> simp [LA] <;> split <;> simp
   have Ez:∀ a b,EB op a b≠some (.osl e xs):=by intro a b;unfold EB;cases op <;> simp
   intro hp;subst hp;split at h
   · split at h
     · exact hs _ _ _ h
     · split at h
       · exact hi _ _ _ h
       · cases h
   · exact Ez _ _ h
   · split at h <;> simp at h
   · split at h
     · cases h
     · split at h <;> simp at h
   · split at h <;> simp at h
   · split at h <;> simp at h
   · cases h
 · rename_i op t x
   intro hp;subst hp;unfold nc at h;split at h
   · split at h <;> simp [LA] at h
   · split at h <;> simp at h
   · cases h
 · intro hp;subst hp
   unfold Gh at h;split at h
   · simp at h
   · simp at h
   · split at h
     · simp at h
     · cases h
   · cases h
 · intro hp;subst hp
   unfold FV at h;split at h
   · split at h
     · split at h <;> simp at h
     · cases h
   · split at h
     · split at h
       · split at h
         · split at h <;> simp at h
         · cases h
       · cases h
     · cases h
   · cases h
 · intro hp;subst hp
   unfold AG at h;split at h
   · split at h
     · split at h
       · split at h <;> simp at h
       · cases h
     · cases h
   · cases h
 · unfold Bi at h
   split at h
   · split at h
     · exact D2 h e xs
     · cases h
   · cases h
 · intro hp;subst hp
   unfold EL at h;split at h
   · split at h
     · cases h
     · split at h
       · split at h
         · split at h
           · split at h <;> simp at h
           · cases h
         · cases h
       · split at h
         · split at h
           · split at h <;> simp at h
           · cases h
         · cases h
       · cases h
   · cases h
 · unfold DA at h
   split at h
   · split at h
     · cases h
     · split at h
       · split at h
         · injection h with h;subst h;simp
         · cases h
       · split at h
         · split at h
           · exact D2 h e xs
           · cases h
         · cases h
       · cases h
   · cases h
 · split at h
   · obtain ⟨q,_,rfl⟩:=Aa3.1 h
     exact LX q e xs
   · cases h
 · intro hp;subst hp
   unfold A9 at h;split at h
   · split at h
     · split at h <;> simp at h
     · cases h
   · split at h
     · split at h <;> simp at h
     · cases h
   · cases h
 · injection h with h;subst h;simp
 · intro hp;subst hp
   split at h
   · unfold Tc at h
     split at h <;> simp at h
   · cases h
 · have key:∀ (l:List PV) (x:PV),(∀ e xs,x≠.osl e xs)->l.foldlM (fun a b=>match a,b with
    | .int k x,.int k' y=>if k=k' then some (.int k (if y > x then y else x)) else none
    | _,_=>none) x=some p->p≠.osl e xs:=by
    intro l
    induction l with
    | nil=>intro x hx h;simp only [Aaa,Aa8,Option.some.injEq] at h;subst h;exact hx _ _
    | cons y l ih=>
     intro x hx h;simp only [Aa9] at h;obtain ⟨z,hz,h⟩:=Aa6.1 h;refine ih z ?_ h;split at hz
     · split at hz
       · injection hz with hz;subst hz;simp
       · cases hz
     · cases hz
   unfold nf at h;split at h
   · cases h
   · rename_i args _ _ x r ug
     refine key r x ?_ h;intro e' xs';have:x ∈ args.toList.map (opd C env):=by rw [ug];simp
     obtain ⟨o,_,rfl⟩:=Aab.1 this;exact ET _ _ _ _
 · have key:∀ (l:List PV) (x:PV),(∀ e xs,x≠.osl e xs)->l.foldlM (fun a b=>match a,b with
    | .int k x,.int k' y=>if k=k' then some (.int k (if y < x then y else x)) else none
    | _,_=>none) x=some p->p≠.osl e xs:=by
    intro l
    induction l with
    | nil=>intro x hx h;simp only [Aaa,Aa8,Option.some.injEq] at h;subst h;exact hx _ _
    | cons y l ih=>
     intro x hx h;simp only [Aa9] at h;obtain ⟨z,hz,h⟩:=Aa6.1 h;refine ih z ?_ h;split at hz
     · split at hz
       · injection hz with hz;subst hz;simp
       · cases hz
     · cases hz
   unfold ng at h;split at h
   · cases h
   · rename_i args _ _ x r ug
     refine key r x ?_ h;intro e' xs';have:x ∈ args.toList.map (opd C env):=by rw [ug];simp
     obtain ⟨o,_,rfl⟩:=Aab.1 this;exact ET _ _ _ _
 · unfold mkIf at h
   split at h <;> simp at h;subst h;simp
 · cases h
theorem ZW (parts:Array (Nat×Operand)) (g:Operand->Value) (i:Nat) (h:i < (parts.map fun (x:Nat×Operand)=>(x.1,g x.2)).size) :
 (parts.map fun (x:Nat×Operand)=>(x.1,g x.2))[i]=((parts[i]'(by simpa using h)).1,g (parts[i]'(by simpa using h)).2):=by simp
theorem ZX (h:Sim C D B T S M n st a w) {o:Oper} {p:PV} (hp:B1 C st.bx st.env o.op=some p) :
 ∃ v,(execOp a.eval o).run C.P w=.ok (.value v) w/\Rep S M p v:=by
 unfold B1 at hp;unfold execOp;split at hp
 · rename_i x ho
   injection hp with hp;subst hp
   exact ⟨_,by rw [ho];rfl,h.opd x⟩
 · rename_i c x y ho
   have hc:=h.opd c;split at hp
   · rename_i t ht
     rw [ht] at hc;injection hp with hp;subst hp
     refine ⟨if t then a.eval x else a.eval y,?_,?_⟩
     · rw [ho];simp only [hc.bool_inv];cases t <;> simp [asBool]
     · cases t
       · exact h.opd y
       · exact h.opd x
   · cases hp
 · rename_i t x ho
   obtain ⟨v,hv,rv⟩:=UL h hp;exact ⟨v,by rw [ho];simp [hv],rv⟩
 · rename_i x ho
   have hx:=h.opd x;split at hp
   · rename_i cs JI
     injection hp with hp;subst hp
     rw [JI] at hx;obtain ⟨b,o,hv,_⟩:=hx.ip_cells;exact ⟨_,by rw [ho];simp only [hv];rfl,by rw [<- hv];exact hx⟩
   · rename_i id off JI
     injection hp with hp;subst hp
     rw [JI] at hx;obtain ⟨b,_,hv⟩:=hx.bp_inv;exact ⟨_,by rw [ho];simp only [hv];rfl,by rw [<- hv];exact hx⟩
   · rename_i f x1 x2 JI
     injection hp with hp;subst hp
     rw [JI] at hx;obtain ⟨va,vc,hv,_,_⟩:=hx.fn_inv;exact ⟨_,by rw [ho];simp only [hv];rfl,by rw [<- hv];exact hx⟩
   · cases hp
 · rename_i op t x y ty ho
   obtain ⟨v,hv,rv⟩:=ir (w:=w) x y hp (h.opd x) (h.opd y);exact ⟨v,by rw [ho];simp only [Aa1,hv,Aa0,Aa2],rv⟩
 · rename_i op t x ho
   obtain ⟨v,hv,rv⟩:=nj (C:=C) (w:=w) hp (h.opd x);exact ⟨v,by rw [ho];simp only [Aa1,hv,Aa0,Aa2],rv⟩
 · rename_i s d x ho
   obtain ⟨v,hv,rv⟩:=eG (w:=w) hp (h.opd x) h.holds;exact ⟨v,by rw [ho];simp only [Aa1,hv,Aa0,Aa2],rv⟩
 · rename_i t x lo hi ho
   obtain ⟨v,hv,rv⟩:=ZR (w:=w) (vlo:=lo.map a.eval) (vhi:=hi.map a.eval) hp (h.opd x)
    (fun p hp=>by cases lo with
     | none=>simp at hp
     | some q=>simp at hp;subst hp;exact ⟨_,rfl,h.opd q⟩) (fun e=>by cases lo <;> simp_all)
    (fun p hp=>by cases hi with
     | none=>simp at hp
     | some q=>simp at hp;subst hp;exact ⟨_,rfl,h.opd q⟩) (fun e=>by cases hi <;> simp_all)
   exact ⟨v,by rw [ho];simp only [Option.map_none,Aa1,hv,Aa0,Aa2],rv⟩
 · rename_i s x f ho
   obtain ⟨v,hv,rv⟩:=ZS (w:=w) hp (h.opd x);exact ⟨v,by rw [ho];simp only [Aa1,hv,Aa0,Aa2],rv⟩
 · rename_i s x f ho
   obtain ⟨v,hv,rv⟩:=ZT (w:=w) hp (h.opd x);exact ⟨v,by rw [ho];simp only [Aa1,hv,Aa0,Aa2],rv⟩
 · rename_i t x i ho
   obtain ⟨v,hv,rv⟩:=QS (w:=w) hp (h.opd x) (h.opd i);exact ⟨v,by rw [ho];simp only [Aa1,hv,Aa0,Aa2],rv⟩
 · rename_i t x i ho
   obtain ⟨v,hv,rv⟩:=ZU (w:=w) hp (h.opd x) (h.opd i);exact ⟨v,by rw [ho];simp only [Aa1,hv,Aa0,Aa2],rv⟩
 · rename_i x i ho
   have hx:=h.opd x;split at hp
   · rename_i vs bP
     rw [bP] at hx;obtain ⟨q,hq,rfl⟩:=Aa3.1 hp;obtain ⟨us,hv,l,hr⟩:=hx.tup_inv
     have hi:i < vs.length:=by
      rcases Nat.lt_or_ge i vs.length with hh | hh
      · exact hh
      · rw [List.getElem?_eq_none hh] at hq;cases hq
     rw [List.getElem?_eq_getElem hi] at hq;injection hq with hq
     have hu:us[i]?=some (us[i]'(by omega)):=Array.getElem?_eq_getElem (by omega);refine ⟨us[i]'(by omega),?_,?_⟩
     · rw [ho];simp only [hv,Instr.extract,hu,Aa1,Aa2,Aa0]
     · rw [<- hq];exact (hr i hi (by omega)).ro
   · cases hp
 · rename_i t parts ho
   obtain ⟨v,hv,rv⟩:=ZV (w:=w) (vparts:=parts.map fun (x:Nat×Operand)=>(x.1,a.eval x.2)) hp (by simp) (fun i h1 h2=>by
    rw [ZW];simp only [Aa5,Aa4];exact ⟨trivial,(h.opd _).shutV⟩)
   exact ⟨v,by rw [ho];simp only [Aa1];rw [show (parts.map fun x=>match x with | (i,x)=>(i,a.eval x))=(parts.map fun (x:Nat×Operand)=>(x.1,a.eval x.2)) from rfl,hv];rfl,rv⟩
 · rename_i f first captured ho
   injection hp with hp;subst hp
   refine ⟨.func (.func f) (first.map a.eval) (captured.map a.eval),by rw [ho];rfl,?_⟩;refine .fn _ _ _ _ _ (by simp) (by simp) (fun i h1 h2=>?_) (fun i h1 h2=>?_)
   · simp only [Aa5,Aa7,Aa4];exact (h.opd _).shutV
   · simp only [Aa5,Aa7,Aa4];exact (h.opd _).shutV
 · rename_i args argTypes ho
   split at hp
   · rename_i t x h1 h2
     obtain ⟨v,hv,rv⟩:=iu (w:=w) (ty:=o.type) (ats:=argTypes) (vs:=args.map a.eval) h1 (by simp [h2]) hp (h.opd x);exact ⟨v,by rw [ho];simp only [resolve,invoke,builtin,Aa1,Aa2,Aa0,hv],rv⟩
   · cases hp
 · rename_i args argTypes ho
   unfold nf at hp;split at hp
   · cases hp
   · rename_i x r ug
     have hl:=h.opdL args.toList;rw [ug] at hl;cases bP:args.toList.map a.eval with
     | nil=>rw [bP] at hl;exact absurd hl.1 (by simp)
     | cons u us=>
      rw [bP] at hl;obtain ⟨hx,hr⟩:=hl.cons_inv;obtain ⟨v,hv,rv⟩:=XL (C:=C) (w:=w) r us x u p hr hx hp;refine ⟨v,?_,rv⟩;have e:(args.map a.eval).toList=u :: us:=by simpa using bP
      rw [ho];simp only [resolve,invoke,builtin,Builtin.max_,e,Aa1,Aa2,Aa0,hv]
 · rename_i args argTypes ho
   unfold ng at hp;split at hp
   · cases hp
   · rename_i x r ug
     have hl:=h.opdL args.toList;rw [ug] at hl;cases bP:args.toList.map a.eval with
     | nil=>rw [bP] at hl;exact absurd hl.1 (by simp)
     | cons u us=>
      rw [bP] at hl;obtain ⟨hx,hr⟩:=hl.cons_inv;obtain ⟨v,hv,rv⟩:=XM (C:=C) (w:=w) r us x u p hr hx hp;refine ⟨v,?_,rv⟩;have e:(args.map a.eval).toList=u :: us:=by simpa using bP
      rw [ho];simp only [resolve,invoke,builtin,Builtin.min_,e,Aa1,Aa2,Aa0,hv]
 · rename_i t x ho
   unfold mkIf at hp;split at hp
   · cases hp
   · cases hp
   · rename_i d yF hd
     injection hp with hp;subst hp
     refine ⟨.iface t (a.eval x),?_,.iface t _ _ (h.opd x).shutV⟩;rw [ho];simp only [Instr.makeInterface,Aa1,AH hd,Aa0];cases d with
     | interface _=>exact absurd rfl (yF _)
     | _=>rfl
 · cases hp
end
end Go.HH
