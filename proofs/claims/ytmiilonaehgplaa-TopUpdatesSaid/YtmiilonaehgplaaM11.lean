/-
  What the law needs, packed: Step3.
-/
import Derived.Conc.MuLone
import Derived.Test.YtmiilonaehgplaaM10
namespace Go.HH
open Go Go.RowKit
def ConcEq (M:List Nat) (a:Act) (w:World) (d:Nat):Loc->Prop
 | .tmp t=>a.tmps.getD d undef=a.tmps.getD t undef
 | .box id off=>∃ b,M[id]?=some b∧w.cell? ⟨b,off,none⟩=some (a.tmps.getD d undef)
def AlOK (M:List Nat) (a:Act) (w:World) (al:List (Nat×Loc)):Prop:=∀ p ∈ al,ConcEq M a w p.1 p.2
def HSim (C:Cfg) (B:Nat) (T:Nat->Prop) (S:Store) (M:List Nat) (bx:List PBox) (w:World):Prop:=Sim C [] B T S M 0 ⟨[],bx⟩ ⟨#[],[]⟩ w
def Outcome (S:Store) (M:List Nat) (cr:CR) (e:Ending):Prop:=
 match cr with
 | .ret r=>(∀ t xs,r≠.osl t xs)∧∃ v,e=.returned v∧Rep S M r v
 | .pan r=>∃ v,e=.panicked [{ v,recovered:=false }]∧Rep S M r v
def HasBody (P:Program) (f:FuncId):Prop:=∃ fn c,P.funcs[f]?=some fn∧(fn.name == "runtime.NumGoroutine")=false∧fn.body=some c
def CallSound (C:Cfg) (call:CallT):Prop:=
 ∀ (f:FuncId) (args:List PV) (bx:List PBox) (cr:CR) (bx':List PBox),call f args bx=some (cr,bx')->HasBody C.P f∧((∀ p ∈ args,∀ t xs,p≠.osl t xs) ->
  ∀ (B:Nat) (T:Nat->Prop) (S:Store) (M:List Nat) (vs:List Value) (w:World),HSim C B T S M bx w->RepL S M args vs ->
   Calls C.P f vs.toArray w fun e w'=>∃ S' M',HSim C B T S' M' bx' w'∧Grows B T S w S' w'∧M <+: M'∧Outcome S' M' cr e)
section
variable {C:Cfg} {D:List Deferred} {B:Nat} {T:Nat->Prop} {S:Store} {M:List Nat} {n:Nat} {st:St} {a:Act} {w:World}
theorem killT_mem {al:List (Nat×Loc)} {d:Option Tmp} {p:Nat×Loc} (h:p ∈ killT al d):p ∈ al∧∀ k,d=some k->p.1≠k∧p.2≠.tmp k:=by
 cases d with
 | none=>exact ⟨h,fun k hk=>by cases hk⟩
 | some k=>
  simp only [killT,List.mem_filter,Bool.and_eq_true,bne_iff_ne] at h
  exact ⟨h.1,fun k' hk=>by injection hk with hk;subst hk;exact h.2⟩
theorem put_get (h:a.tmps.size=n) {d:Option Tmp} (hd:∀ k,d=some k->k < n) {v:Value} (t:Nat) (ht:∀ k,d=some k->t≠k):(a.put d v).tmps.getD t undef=a.tmps.getD t undef:=by
 cases d with
 | none=>rfl
 | some d=>rw [put_tmps,getD_set _ _ _ _ (by rw [h];exact hd d rfl),if_neg (ht d rfl)]
theorem AlOK.put {al:List (Nat×Loc)} (h:AlOK M a w al) (hs:a.tmps.size=n) {d:Option Tmp} (hd:∀ k,d=some k->k < n) (v:Value) {M':List Nat} {w':World}
 (hM:∀ (id b:Nat),M[id]?=some b->M'[id]?=some b) (hb:∀ b,b ∈ M->w'.heap[b]?=w.heap[b]?):AlOK M' (a.put d v) w' (killT al d):=by
 intro p hp
 obtain ⟨h1,h2⟩:=killT_mem hp
 have h3:=h p h1
 obtain ⟨d',l⟩:=p
 cases l with
 | tmp t=>
  simp only [ConcEq] at h3 ⊢
  rw [put_get hs hd _ (fun k hk=>(h2 k hk).1),put_get hs hd _ (fun k hk=>by simpa using (h2 k hk).2)]
  exact h3
 | box id off=>
  obtain ⟨b,e1,e2⟩:=h3
  refine ⟨b,hM _ _ e1,?_⟩
  rw [put_get hs hd _ (fun k hk=>(h2 k hk).1),World.cell?_of_block (a:=⟨b,off,none⟩) (hb b (List.mem_of_getElem? e1))]
  exact e2
def StepTo (C:Cfg) (D:List Deferred) (B:Nat) (T:Nat->Prop) (S:Store) (M:List Nat) (n:Nat) (a:Act) (w:World) (o:Oper) (r:OpR):Prop:=
 ∀ (K:Act->World->Prop) (Q:Exit->Act->World->Prop),
  (match r with
   | .next st' al'=>∀ S' M' a' w',Sim C D B T S' M' n st' a' w'->Grows B T S w S' w'->M <+: M'->AlOK M' a' w' al'->K a' w'
   | .pan p st'=>∀ S' M' a' w' x v,Sim C D B T S' M' n st' a' w'->Grows B T S w S' w'->M <+: M'->Rep S' M' p v->x=[{ v,recovered:=false }]->Q (.panic x) a' w') ->
  o.wp C.P a w K Q
theorem upon_of_value {o:Oper} {v:Value} {w':World} {K:Act->World->Prop} {Q:Exit->Act->World->Prop} (h:(execOp a.eval o).run C.P w=.ok (.value v) w') (hk:K (a.put o.dst v) w'):o.wp C.P a w K Q:=by
 unfold Oper.wp
 rw [h]
 exact hk
theorem origin_conc (h:Sim C D B T S M n st a w) {op:Op} {l:Loc} (ho:origin C st op=some l) {o:Oper} (hop:o.op=op) {v:Value} (hv:(execOp a.eval o).run C.P w=.ok (.value v) w) :
 match l with
 | .tmp t=>v=a.tmps.getD t undef
 | .box id off=>∃ b,M[id]?=some b∧w.cell? ⟨b,off,none⟩=some v:=by
 subst hop
 unfold origin at ho
 split at ho
 · rename_i t heq
   split at ho
   · injection ho with ho;subst ho
     rw [execOp,heq] at hv
     simp only [Sem.run_pure] at hv
     injection hv with hv _
     injection hv with hv
     exact hv.symm
   · cases ho
 · rename_i ty x heq
   split at ho
   · rename_i el hty
     split at ho
     · rename_i id off hx
       split at ho
       · rename_i e xs hl
         injection ho with ho;subst ho
         have hx':=h.opd x
         rw [hx] at hx'
         obtain ⟨b,hm,hval⟩:=hx'.bp_inv
         refine ⟨b,hm,?_⟩
         simp only [locVal] at hl
         split at hl
         · rename_i cs hcs
           obtain ⟨b',c,te,hm',hh,hsz,h1,hr⟩:=BoxAt.get h hcs
           rw [hm] at hm'
           injection hm' with hm'
           subst hm'
           have hlt:off < cs.length:=by
            rcases Nat.lt_or_ge off cs.length with hh | hh
            · exact hh
            · rw [List.getD_eq_getElem?_getD,List.getElem?_eq_none hh] at hl;cases hl
           have hcell:w.cell? ⟨b,off,none⟩=some (c[off]'(by omega)):=by rw [cell_of_heap hh];exact Array.getElem?_eq_getElem (by omega)
           rw [execOp,heq] at hv
           have hag:(isAgg ty).run C.P w=.ok false w:=by rw [run_isAgg' hty];simp [HH.tAgg,hty]
           simp only [hval,Instr.loadAt,Instr.sureAddr,loadVar,Sem.run_bind,Sem.run_pure,Result.andThen_ok,hag,Bool.false_eq_true,if_false,run_load,hcell] at hv
           injection hv with hv _
           injection hv with hv
           rw [hcell,hv]
         · cases hl
       · cases ho
     · cases ho
   · cases ho
 · cases ho
theorem noteD_mem {op:Op} {e:List PV} {d:Option Tmp} {q:Nat×Loc} (h:q ∈ noteD op e d):∃ d' t,d=some d'∧q=(d',Loc.tmp t)∧t≠d'∧op=.move (.tmp t)∧∃ x xs,getT e t=.osl x xs:=by
 unfold noteD at h
 split at h
 · rename_i t d'
   split at h
   · rename_i x xs hx
     split at h
     · simp at h
     · rename_i hne
       rw [List.mem_singleton] at h
       exact ⟨d',t,rfl,h,hne,rfl,x,xs,hx⟩
   · simp at h
 · simp at h
theorem step_pure (h:Sim C D B T S M n st a w) {o:Oper} (hd:∀ k,o.dst=some k->k < n) {al:List (Nat×Loc)} (hal:AlOK M a w al) (draw:Bool) {p:PV} (hp:pureOp C st.bx st.env o.op=some p) :
 StepTo C D B T S M n a w o (.next (st.put o.dst p) (noteAl C draw st o.op o.dst al)):=by
 intro K Q hK
 obtain ⟨v,hv,rv⟩:=pureOp_run h hp
 refine upon_of_value hv (hK S M _ w (h.put o.dst hd rv (pureOp_not_osl hp)) (Grows.refl _ _ _ _) (List.prefix_refl _) ?_)
 have base:=hal.put h.size hd v (M':=M) (w':=w) (fun _ _ x=>x) (fun _ _=>rfl)
 have note:∀ l d,origin C st o.op=some l->o.dst=some d->l≠.tmp d->ConcEq M (a.put o.dst v) w d l:=by
  intro l d ho hdst hne
  have hc:=origin_conc h ho rfl hv
  rw [hdst] at hd
  have hdn:=hd d rfl
  rw [hdst]
  have hget:(a.put (some d) v).tmps.getD d undef=v:=by rw [put_tmps,getD_set _ _ _ _ (by rw [h.size];exact hdn),if_pos rfl]
  cases l with
  | tmp t=>
   simp only [ConcEq]
   rw [hget,put_get h.size hd t (fun k hk=>by injection hk with hk;subst hk;intro e;exact hne (by rw [e]))]
   exact hc
  | box id off=>
   obtain ⟨b,e1,e2⟩:=hc
   exact ⟨b,e1,by rw [hget];exact e2⟩
 unfold noteAl
 cases draw with
 | true=>
  simp only [if_true]
  intro q hq
  rcases List.mem_append.1 hq with hq | hq
  · obtain ⟨d,t,hdst,rfl,hne,hop,x,xs,hx⟩:=noteD_mem hq
    refine note (.tmp t) d ?_ hdst (fun e=>hne (by injection e))
    rw [hop]
    unfold origin
    simp only [hx]
  · exact base q hq
 | false=>
  simp only [Bool.false_eq_true,if_false]
  split
  · rename_i l d hl hdst
    rw [hdst] at base
    split
    · rw [hdst];exact base
    · rename_i hne
      intro q hq
      rcases List.mem_cons.1 hq with rfl | hq
      · exact note l d hl hdst hne
      · rw [hdst];exact base q hq
  · exact base
theorem step_assign (h:Sim C D B T S M n st a w) {o:Oper} (hd:∀ k,o.dst=some k->k < n) {al:List (Nat×Loc)} (hal:AlOK M a w al) (draw:Bool) {x:Operand} (ho:o.op=.assign x) {call:CallT} {r:OpR}
 (hr:stepOp C call draw al o st=some r):StepTo C D B T S M n a w o r:=by
 unfold stepOp at hr
 rw [ho] at hr
 have hv:(execOp a.eval o).run C.P w=.ok (.value (a.eval x)) w:=by rw [execOp,ho];rfl
 intro K Q hK
 simp only at hr
 split at hr
 · injection hr with hr;subst hr
   exact upon_of_value hv (hK S M _ w (h.put o.dst hd (h.opd x) (fun e xs=>opd_not_osl _ _ _ _)) (Grows.refl _ _ _ _) (List.prefix_refl _) (hal.put h.size hd _ (fun _ _ x=>x) (fun _ _=>rfl)))
 · cases hT:takeT C st x o.type with
   | mk v st1=>
    simp only [hT,Option.some.injEq] at hr
    subst hr
    obtain ⟨h1,h2,h3,h4⟩:=takeT_sim h x o.type hT
    refine upon_of_value hv (hK S M _ w (h1.putG o.dst hd h3 (fun e xs he=>⟨(h4 e xs he).1,(h4 e xs he).2.1,fun l e' xs' u g _ hl hu=>(h4 e xs he).2.2 l e' xs' u g hl hu⟩)) (Grows.refl _ _ _ _) (List.prefix_refl _) ?_)
    have sub:∀ d,AlOK M a w (killT al d):=fun d p hp=>hal p (killT_mem hp).1
    split
    · exact (sub _).put h.size hd _ (fun _ _ x=>x) (fun _ _=>rfl)
    · exact hal.put h.size hd _ (fun _ _ x=>x) (fun _ _=>rfl)
end
end Go.HH
