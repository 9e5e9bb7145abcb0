/-
  What the law needs, packed: Step3.
-/
import Derived.Conc.MuLone
import Derived.Test.YthjcaihemgllaaaGreatDoorK10
open List renaming prefix_refl->Aau
open Bool renaming false_eq_true->Aav
open Go.Sem renaming run_pure->Aaw
namespace Go.HH
open Go Go.RowKit
def I9 (M:List Nat) (a:Act) (w:World) (d:Nat):Loc->Prop
 | .tmp t=>a.tmps.getD d undef=a.tmps.getD t undef
 | .box id off=>∃ b,M[id]?=some b/\w.cell? ⟨b,off,none⟩=some (a.tmps.getD d undef)
def GK (M:List Nat) (a:Act) (w:World) (al:List (Nat×Loc)):Prop:=∀ p ∈ al,I9 M a w p.1 p.2
def CO (C:Cfg) (B:Nat) (T:Nat->Prop) (S:AJ) (M:List Nat) (bx:List PBox) (w:World):Prop:=Sim C [] B T S M 0 ⟨[],bx⟩ ⟨#[],[]⟩ w
def Outcome (S:AJ) (M:List Nat) (cr:CR) (e:Ending):Prop:=
 match cr with
 | .ret r=>(∀ t xs,r≠.osl t xs)/\∃ v,e=.returned v/\Rep S M r v
 | .pan r=>∃ v,e=.panicked [{ v,recovered:=false }]/\Rep S M r v
def Ff (P:Program) (f:FuncId):Prop:=∃ fn c,P.funcs[f]?=some fn/\(fn.name == "runtime.NumGoroutine")=false/\fn.body=some c
def DY (C:Cfg) (call:Cn):Prop:=
 ∀ (f:FuncId) (args:List PV) (bx:List PBox) (cr:CR) (bx':List PBox),call f args bx=some (cr,bx')->Ff C.P f/\((∀ p ∈ args,∀ t xs,p≠.osl t xs) ->
  ∀ (B:Nat) (T:Nat->Prop) (S:AJ) (M:List Nat) (vs:List Value) (w:World),CO C B T S M bx w->Ce S M args vs ->
   Calls C.P f vs.toArray w fun e w'=>∃ S' M',CO C B T S' M' bx' w'/\Grows B T S w S' w'/\M <+: M'/\Outcome S' M' cr e)
section
variable {C:Cfg} {D:List Deferred} {B:Nat} {T:Nat->Prop} {S:AJ} {M:List Nat} {n:Nat} {st:St} {a:Act} {w:World}
theorem EU {al:List (Nat×Loc)} {d:Option Tmp} {p:Nat×Loc} (h:p ∈ Aj al d):p ∈ al/\∀ k,d=some k->p.1≠k/\p.2≠.tmp k:=by
 cases d with
 | none=>exact ⟨h,fun k hk=>by cases hk⟩
 | some k=>
  simp only [Aj,List.mem_filter,Bool.and_eq_true,bne_iff_ne] at h;exact ⟨h.1,fun k' hk=>by injection hk with hk;subst hk;exact h.2⟩
theorem CP (h:a.tmps.size=n) {d:Option Tmp} (hd:∀ k,d=some k->k < n) {v:Value} (t:Nat) (ht:∀ k,d=some k->t≠k):(a.put d v).tmps.getD t undef=a.tmps.getD t undef:=by
 cases d with
 | none=>rfl
 | some d=>rw [G',Ir _ _ _ _ (by rw [h];exact hd d rfl),if_neg (ht d rfl)]
theorem GK.put {al:List (Nat×Loc)} (h:GK M a w al) (hs:a.tmps.size=n) {d:Option Tmp} (hd:∀ k,d=some k->k < n) (v:Value) {M':List Nat} {w':World}
 (hM:∀ (id b:Nat),M[id]?=some b->M'[id]?=some b) (hb:∀ b,b ∈ M->w'.heap[b]?=w.heap[b]?):GK M' (a.put d v) w' (Aj al d):=by
 intro p hp;obtain ⟨h1,h2⟩:=EU hp;have h3:=h p h1;obtain ⟨d',l⟩:=p;cases l with
 | tmp t=>
  simp only [I9] at h3 |-;rw [CP hs hd _ (fun k hk=>(h2 k hk).1),CP hs hd _ (fun k hk=>by simpa using (h2 k hk).2)];exact h3
 | box id off=>
  obtain ⟨b,e1,e2⟩:=h3;refine ⟨b,hM _ _ e1,?_⟩;rw [CP hs hd _ (fun k hk=>(h2 k hk).1),World.cell?_of_block (a:=⟨b,off,none⟩) (hb b (List.mem_of_getElem? e1))];exact e2
def Fg (C:Cfg) (D:List Deferred) (B:Nat) (T:Nat->Prop) (S:AJ) (M:List Nat) (n:Nat) (a:Act) (w:World) (o:Oper) (r:OpR):Prop:=
 ∀ (K:Act->World->Prop) (Q:Exit->Act->World->Prop),
  (match r with
   | .next st' al'=>∀ S' M' a' w',Sim C D B T S' M' n st' a' w'->Grows B T S w S' w'->M <+: M'->GK M' a' w' al'->K a' w'
   | .pan p st'=>∀ S' M' a' w' x v,Sim C D B T S' M' n st' a' w'->Grows B T S w S' w'->M <+: M'->Rep S' M' p v->x=[{ v,recovered:=false }]->Q (.panic x) a' w') ->
  o.wp C.P a w K Q
theorem Cg {o:Oper} {v:Value} {w':World} {K:Act->World->Prop} {Q:Exit->Act->World->Prop} (h:(execOp a.eval o).run C.P w=.ok (.value v) w') (hk:K (a.put o.dst v) w'):o.wp C.P a w K Q:=by
 unfold Oper.wp;rw [h];exact hk
theorem X2 (h:Sim C D B T S M n st a w) {op:Op} {l:Loc} (ho:origin C st op=some l) {o:Oper} (Bb:o.op=op) {v:Value} (hv:(execOp a.eval o).run C.P w=.ok (.value v) w) :
 match l with
 | .tmp t=>v=a.tmps.getD t undef
 | .box id off=>∃ b,M[id]?=some b/\w.cell? ⟨b,off,none⟩=some v:=by
 subst Bb;unfold origin at ho;split at ho
 · rename_i t heq
   split at ho
   · injection ho with ho;subst ho
     rw [execOp,heq] at hv;simp only [Aaw] at hv;injection hv with hv _
     injection hv with hv
     exact hv.symm
   · cases ho
 · rename_i ty x heq
   split at ho
   · rename_i el zf
     split at ho
     · rename_i id off hx
       split at ho
       · rename_i e xs hl
         injection ho with ho;subst ho
         have Gz:=h.opd x;rw [hx] at Gz;obtain ⟨b,hm,HB⟩:=Gz.bp_inv;refine ⟨b,hm,?_⟩;simp only [E9] at hl;split at hl
         · rename_i cs JQ
           obtain ⟨b',c,te,HA,hh,I4,h1,hr⟩:=BoxAt.get h JQ;rw [hm] at HA;injection HA with HA
           subst HA
           have BC:off < cs.length:=by
            rcases Nat.lt_or_ge off cs.length with hh | hh
            · exact hh
            · rw [List.getD_eq_getElem?_getD,List.getElem?_eq_none hh] at hl;cases hl
           have Zz:w.cell? ⟨b,off,none⟩=some (c[off]'(by omega)):=by rw [cell_of_heap hh];exact Array.getElem?_eq_getElem (by omega)
           rw [execOp,heq] at hv;have hag:(isAgg ty).run C.P w=.ok false w:=by rw [L5 zf];simp [HH.tAgg,zf]
           simp only [HB,Instr.loadAt,Instr.sureAddr,loadVar,Sem.run_bind,Aaw,Result.andThen_ok,hag,Aav,if_false,run_load,Zz] at hv;injection hv with hv _
           injection hv with hv
           rw [Zz,hv]
         · cases hl
       · cases ho
     · cases ho
   · cases ho
 · cases ho
theorem U2 {op:Op} {e:List PV} {d:Option Tmp} {q:Nat×Loc} (h:q ∈ E' op e d):∃ d' t,d=some d'/\q=(d',Loc.tmp t)/\t≠d'/\op=.move (.tmp t)/\∃ x xs,getT e t=.osl x xs:=by
 unfold E' at h;split at h
 · rename_i t d'
   split at h
   · rename_i x xs hx
     split at h
     · simp at h
     · rename_i Dx
       rw [List.mem_singleton] at h;exact ⟨d',t,rfl,h,Dx,rfl,x,xs,hx⟩
   · simp at h
 · simp at h
theorem fi (h:Sim C D B T S M n st a w) {o:Oper} (hd:∀ k,o.dst=some k->k < n) {al:List (Nat×Loc)} (FF:GK M a w al) (draw:Bool) {p:PV} (hp:BZ C st.bx st.env o.op=some p) :
 Fg C D B T S M n a w o (.next (st.put o.dst p) (Gv C draw st o.op o.dst al)):=by
 intro K Q hK;obtain ⟨v,hv,rv⟩:=aw h hp;refine Cg hv (hK S M _ w (h.put o.dst hd rv (Q5 hp)) (Grows.refl _ _ _ _) (Aau _) ?_);have base:=FF.put h.size hd v (M':=M) (w':=w) (fun _ _ x=>x) (fun _ _=>rfl)
 have note:∀ l d,origin C st o.op=some l->o.dst=some d->l≠.tmp d->I9 M (a.put o.dst v) w d l:=by
  intro l d ho NR Dx;have hc:=X2 h ho rfl hv;rw [NR] at hd;have vU:=hd d rfl;rw [NR];have Hs:(a.put (some d) v).tmps.getD d undef=v:=by rw [G',Ir _ _ _ _ (by rw [h.size];exact vU),if_pos rfl]
  cases l with
  | tmp t=>
   simp only [I9];rw [Hs,CP h.size hd t (fun k hk=>by injection hk with hk;subst hk;intro e;exact Dx (by rw [e]))];exact hc
  | box id off=>
   obtain ⟨b,e1,e2⟩:=hc;exact ⟨b,e1,by rw [Hs];exact e2⟩
 unfold Gv;cases draw with
 | true=>
  simp only [if_true];intro q hq;rcases List.mem_append.1 hq with hq | hq
  · obtain ⟨d,t,NR,rfl,Dx,Bb,x,xs,hx⟩:=U2 hq
    refine note (.tmp t) d ?_ NR (fun e=>Dx (by injection e));rw [Bb];unfold origin;simp only [hx]
  · exact base q hq
 | false=>
  simp only [Aav,if_false];split
  · rename_i l d hl NR
    rw [NR] at base;split
    · rw [NR];exact base
    · rename_i Dx
      intro q hq;rcases List.mem_cons.1 hq with rfl | hq
      · exact note l d hl NR Dx
      · rw [NR];exact base q hq
  · exact base
theorem X3 (h:Sim C D B T S M n st a w) {o:Oper} (hd:∀ k,o.dst=some k->k < n) {al:List (Nat×Loc)} (FF:GK M a w al) (draw:Bool) {x:Operand} (ho:o.op=.assign x) {call:Cn} {r:OpR}
 (hr:Bq C call draw al o st=some r):Fg C D B T S M n a w o r:=by
 unfold Bq at hr;rw [ho] at hr;have hv:(execOp a.eval o).run C.P w=.ok (.value (a.eval x)) w:=by rw [execOp,ho];rfl
 intro K Q hK;simp only at hr;split at hr
 · injection hr with hr;subst hr
   exact Cg hv (hK S M _ w (h.put o.dst hd (h.opd x) (fun e xs=>ET _ _ _ _)) (Grows.refl _ _ _ _) (Aau _) (FF.put h.size hd _ (fun _ _ x=>x) (fun _ _=>rfl)))
 · cases hT:D8 C st x o.type with
   | mk v st1=>
    simp only [hT,Option.some.injEq] at hr;subst hr;obtain ⟨h1,h2,h3,h4⟩:=U1 h x o.type hT;refine Cg hv (hK S M _ w (h1.putG o.dst hd h3 (fun e xs he=>⟨(h4 e xs he).1,(h4 e xs he).2.1,fun l e' xs' u g _ hl hu=>(h4 e xs he).2.2 l e' xs' u g hl hu⟩)) (Grows.refl _ _ _ _) (Aau _) ?_);have sub:∀ d,GK M a w (Aj al d):=fun d p hp=>FF p (EU hp).1;split
    · exact (sub _).put h.size hd _ (fun _ _ x=>x) (fun _ _=>rfl)
    · exact FF.put h.size hd _ (fun _ _ x=>x) (fun _ _=>rfl)
end
end Go.HH
