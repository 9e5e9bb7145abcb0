/-
  What the law needs, packed: Step3.
-/
import Derived.Conc.MuLone
import Derived.Test.YthjcaihemgllaaaGreatDoorJ10
open List renaming prefix_refl->Aa0
open Bool renaming false_eq_true->Aa1
open Go.Sem renaming run_pure->Aa2
namespace Go.HH
open Go Go.RowKit
def IZ (M:List Nat) (a:Act) (w:World) (d:Nat):Loc->Prop
 | .tmp t=>a.tmps.getD d undef=a.tmps.getD t undef
 | .box id off=>∃ b,M[id]?=some b/\w.cell? ⟨b,off,none⟩=some (a.tmps.getD d undef)
def GJ (M:List Nat) (a:Act) (w:World) (al:List (Nat×Loc)):Prop:=∀ p ∈ al,IZ M a w p.1 p.2
def CO (C:Cfg) (B:Nat) (T:Nat->Prop) (S:AI) (M:List Nat) (bx:List PBox) (w:World):Prop:=Sim C [] B T S M 0 ⟨[],bx⟩ ⟨#[],[]⟩ w
def Outcome (S:AI) (M:List Nat) (cr:CR) (e:Ending):Prop:=
 match cr with
 | .ret r=>(∀ t xs,r≠.osl t xs)/\∃ v,e=.returned v/\Rep S M r v
 | .pan r=>∃ v,e=.panicked [{ v,recovered:=false }]/\Rep S M r v
def Fi (P:Program) (f:FuncId):Prop:=∃ fn c,P.funcs[f]?=some fn/\(fn.name == "runtime.NumGoroutine")=false/\fn.body=some c
def DX (C:Cfg) (call:Cl):Prop:=
 ∀ (f:FuncId) (args:List PV) (bx:List PBox) (cr:CR) (bx':List PBox),call f args bx=some (cr,bx')->Fi C.P f/\((∀ p ∈ args,∀ t xs,p≠.osl t xs) ->
  ∀ (B:Nat) (T:Nat->Prop) (S:AI) (M:List Nat) (vs:List Value) (w:World),CO C B T S M bx w->Cd S M args vs ->
   Calls C.P f vs.toArray w fun e w'=>∃ S' M',CO C B T S' M' bx' w'/\Grows B T S w S' w'/\M <+: M'/\Outcome S' M' cr e)
section
variable {C:Cfg} {D:List Deferred} {B:Nat} {T:Nat->Prop} {S:AI} {M:List Nat} {n:Nat} {st:St} {a:Act} {w:World}
theorem EU {al:List (Nat×Loc)} {d:Option Tmp} {p:Nat×Loc} (h:p ∈ Ak al d):p ∈ al/\∀ k,d=some k->p.1≠k/\p.2≠.tmp k:=by
 cases d with
 | none=>exact ⟨h,fun k hk=>by cases hk⟩
 | some k=>
  simp only [Ak,List.mem_filter,Bool.and_eq_true,bne_iff_ne] at h;exact ⟨h.1,fun k' hk=>by injection hk with hk;subst hk;exact h.2⟩
theorem CP (h:a.tmps.size=n) {d:Option Tmp} (hd:∀ k,d=some k->k < n) {v:Value} (t:Nat) (ht:∀ k,d=some k->t≠k):(a.put d v).tmps.getD t undef=a.tmps.getD t undef:=by
 cases d with
 | none=>rfl
 | some d=>rw [G4,Ij _ _ _ _ (by rw [h];exact hd d rfl),if_neg (ht d rfl)]
theorem GJ.put {al:List (Nat×Loc)} (h:GJ M a w al) (hs:a.tmps.size=n) {d:Option Tmp} (hd:∀ k,d=some k->k < n) (v:Value) {M':List Nat} {w':World}
 (hM:∀ (id b:Nat),M[id]?=some b->M'[id]?=some b) (hb:∀ b,b ∈ M->w'.heap[b]?=w.heap[b]?):GJ M' (a.put d v) w' (Ak al d):=by
 intro p hp;obtain ⟨h1,h2⟩:=EU hp;have h3:=h p h1;obtain ⟨d',l⟩:=p;cases l with
 | tmp t=>
  simp only [IZ] at h3 |-;rw [CP hs hd _ (fun k hk=>(h2 k hk).1),CP hs hd _ (fun k hk=>by simpa using (h2 k hk).2)];exact h3
 | box id off=>
  obtain ⟨b,e1,e2⟩:=h3;refine ⟨b,hM _ _ e1,?_⟩;rw [CP hs hd _ (fun k hk=>(h2 k hk).1),World.cell?_of_block (a:=⟨b,off,none⟩) (hb b (List.mem_of_getElem? e1))];exact e2
def Fj (C:Cfg) (D:List Deferred) (B:Nat) (T:Nat->Prop) (S:AI) (M:List Nat) (n:Nat) (a:Act) (w:World) (o:Oper) (r:OpR):Prop:=
 ∀ (K:Act->World->Prop) (Q:Exit->Act->World->Prop),
  (match r with
   | .next st' al'=>∀ S' M' a' w',Sim C D B T S' M' n st' a' w'->Grows B T S w S' w'->M <+: M'->GJ M' a' w' al'->K a' w'
   | .pan p st'=>∀ S' M' a' w' x v,Sim C D B T S' M' n st' a' w'->Grows B T S w S' w'->M <+: M'->Rep S' M' p v->x=[{ v,recovered:=false }]->Q (.panic x) a' w') ->
  o.wp C.P a w K Q
theorem Ce {o:Oper} {v:Value} {w':World} {K:Act->World->Prop} {Q:Exit->Act->World->Prop} (h:(execOp a.eval o).run C.P w=.ok (.value v) w') (hk:K (a.put o.dst v) w'):o.wp C.P a w K Q:=by
 unfold Oper.wp;rw [h];exact hk
theorem XN (h:Sim C D B T S M n st a w) {op:Op} {l:Loc} (ho:origin C st op=some l) {o:Oper} (Bc:o.op=op) {v:Value} (hv:(execOp a.eval o).run C.P w=.ok (.value v) w) :
 match l with
 | .tmp t=>v=a.tmps.getD t undef
 | .box id off=>∃ b,M[id]?=some b/\w.cell? ⟨b,off,none⟩=some v:=by
 subst Bc;unfold origin at ho;split at ho
 · rename_i t heq
   split at ho
   · injection ho with ho;subst ho
     rw [execOp,heq] at hv;simp only [Aa2] at hv;injection hv with hv _
     injection hv with hv
     exact hv.symm
   · cases ho
 · rename_i ty x heq
   split at ho
   · rename_i el yG
     split at ho
     · rename_i id off hx
       split at ho
       · rename_i e xs hl
         injection ho with ho;subst ho
         have Hw:=h.opd x;rw [hx] at Hw;obtain ⟨b,hm,Hx⟩:=Hw.bp_inv;refine ⟨b,hm,?_⟩;simp only [Fb] at hl;split at hl
         · rename_i cs JI
           obtain ⟨b',c,te,Hv,hh,IV,h1,hr⟩:=BoxAt.get h JI;rw [hm] at Hv;injection Hv with Hv
           subst Hv
           have Bz:off < cs.length:=by
            rcases Nat.lt_or_ge off cs.length with hh | hh
            · exact hh
            · rw [List.getD_eq_getElem?_getD,List.getElem?_eq_none hh] at hl;cases hl
           have Zi:w.cell? ⟨b,off,none⟩=some (c[off]'(by omega)):=by rw [cell_of_heap hh];exact Array.getElem?_eq_getElem (by omega)
           rw [execOp,heq] at hv;have hag:(isAgg ty).run C.P w=.ok false w:=by rw [LW yG];simp [HH.tAgg,yG]
           simp only [Hx,Instr.loadAt,Instr.sureAddr,loadVar,Sem.run_bind,Aa2,Result.andThen_ok,hag,Aa1,if_false,run_load,Zi] at hv;injection hv with hv _
           injection hv with hv
           rw [Zi,hv]
         · cases hl
       · cases ho
     · cases ho
   · cases ho
 · cases ho
theorem UN {op:Op} {e:List PV} {d:Option Tmp} {q:Nat×Loc} (h:q ∈ Fc op e d):∃ d' t,d=some d'/\q=(d',Loc.tmp t)/\t≠d'/\op=.move (.tmp t)/\∃ x xs,getT e t=.osl x xs:=by
 unfold Fc at h;split at h
 · rename_i t d'
   split at h
   · rename_i x xs hx
     split at h
     · simp at h
     · rename_i Dz
       rw [List.mem_singleton] at h;exact ⟨d',t,rfl,h,Dz,rfl,x,xs,hx⟩
   · simp at h
 · simp at h
theorem eI (h:Sim C D B T S M n st a w) {o:Oper} (hd:∀ k,o.dst=some k->k < n) {al:List (Nat×Loc)} (Gs:GJ M a w al) (draw:Bool) {p:PV} (hp:B1 C st.bx st.env o.op=some p) :
 Fj C D B T S M n a w o (.next (st.put o.dst p) (Gv C draw st o.op o.dst al)):=by
 intro K Q hK;obtain ⟨v,hv,rv⟩:=ZX h hp;refine Ce hv (hK S M _ w (h.put o.dst hd rv (QT hp)) (Grows.refl _ _ _ _) (Aa0 _) ?_);have base:=Gs.put h.size hd v (M':=M) (w':=w) (fun _ _ x=>x) (fun _ _=>rfl)
 have note:∀ l d,origin C st o.op=some l->o.dst=some d->l≠.tmp d->IZ M (a.put o.dst v) w d l:=by
  intro l d ho NI Dz;have hc:=XN h ho rfl hv;rw [NI] at hd;have vd:=hd d rfl;rw [NI];have Hn:(a.put (some d) v).tmps.getD d undef=v:=by rw [G4,Ij _ _ _ _ (by rw [h.size];exact vd),if_pos rfl]
  cases l with
  | tmp t=>
   simp only [IZ];rw [Hn,CP h.size hd t (fun k hk=>by injection hk with hk;subst hk;intro e;exact Dz (by rw [e]))];exact hc
  | box id off=>
   obtain ⟨b,e1,e2⟩:=hc;exact ⟨b,e1,by rw [Hn];exact e2⟩
 unfold Gv;cases draw with
 | true=>
  simp only [if_true];intro q hq;rcases List.mem_append.1 hq with hq | hq
  · obtain ⟨d,t,NI,rfl,Dz,Bc,x,xs,hx⟩:=UN hq
    refine note (.tmp t) d ?_ NI (fun e=>Dz (by injection e));rw [Bc];unfold origin;simp only [hx]
  · exact base q hq
 | false=>
  simp only [Aa1,if_false];split
  · rename_i l d hl NI
    rw [NI] at base;split
    · rw [NI];exact base
    · rename_i Dz
      intro q hq;rcases List.mem_cons.1 hq with rfl | hq
      · exact note l d hl NI Dz
      · rw [NI];exact base q hq
  · exact base
theorem XO (h:Sim C D B T S M n st a w) {o:Oper} (hd:∀ k,o.dst=some k->k < n) {al:List (Nat×Loc)} (Gs:GJ M a w al) (draw:Bool) {x:Operand} (ho:o.op=.assign x) {call:Cl} {r:OpR}
 (hr:Bp C call draw al o st=some r):Fj C D B T S M n a w o r:=by
 unfold Bp at hr;rw [ho] at hr;have hv:(execOp a.eval o).run C.P w=.ok (.value (a.eval x)) w:=by rw [execOp,ho];rfl
 intro K Q hK;simp only at hr;split at hr
 · injection hr with hr;subst hr
   exact Ce hv (hK S M _ w (h.put o.dst hd (h.opd x) (fun e xs=>ET _ _ _ _)) (Grows.refl _ _ _ _) (Aa0 _) (Gs.put h.size hd _ (fun _ _ x=>x) (fun _ _=>rfl)))
 · cases hT:D9 C st x o.type with
   | mk v st1=>
    simp only [hT,Option.some.injEq] at hr;subst hr;obtain ⟨h1,h2,h3,h4⟩:=UM h x o.type hT;refine Ce hv (hK S M _ w (h1.putG o.dst hd h3 (fun e xs he=>⟨(h4 e xs he).1,(h4 e xs he).2.1,fun l e' xs' u g _ hl hu=>(h4 e xs he).2.2 l e' xs' u g hl hu⟩)) (Grows.refl _ _ _ _) (Aa0 _) ?_);have sub:∀ d,GJ M a w (Ak al d):=fun d p hp=>Gs p (EU hp).1;split
    · exact (sub _).put h.size hd _ (fun _ _ x=>x) (fun _ _=>rfl)
    · exact Gs.put h.size hd _ (fun _ _ x=>x) (fun _ _=>rfl)
end
end Go.HH
