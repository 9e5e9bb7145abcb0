/-
  What the law needs, packed: Region.
-/
import Derived.Test.YthjcaihemgllaaaGreatDoorM18
namespace Go.HH
open Go Go.RowKit
section
variable {C:Cfg} {D:List Deferred} {B:Nat} {T:Nat->Prop} {S:Store} {M:List Nat} {n:Nat} {st:St} {a:Act} {w:World}
theorem step_next (h:Sim C D B T S M n st a w) {o:Oper} (hd:∀ k,o.dst=some k->k < n) {al:List (Nat×Loc)} (hal:AlOK M a w al) {call:CallT} (draw:Bool) {x:Operand} (ho:o.op=.next x true) {r:OpR}
 (hr:stepOp C call draw al o st=some r):StepTo C D B T S M n a w o r:=by
 intro K Q hK
 unfold stepOp at hr
 rw [ho] at hr
 simp only at hr
 split at hr
 · rename_i id hx
   have hx':=h.opd x
   rw [hx] at hx'
   obtain ⟨b,hm,hv⟩:=hx'.bp_inv
   split at hr
   · rename_i s pos hb
     obtain ⟨b',hm',hbox⟩:=h.boxes id _ hb
     rw [hm] at hm'
     injection hm' with hm'
     subst hm'
     have hid:id < st.bx.length:=by
      rcases Nat.lt_or_ge id st.bx.length with h | h
      · exact h
      · rw [List.getElem?_eq_none h] at hb;cases hb
     cases hbox with
     | iter s pos b hh=>
      have hlt:=(Array.getElem?_eq_some_iff.1 hh).1
      have hsz:(⟨s.toArray⟩:ByteArray).size=s.length:=by simp [ByteArray.size]
      split at hr
      · rename_i hpos
        injection hr with hr
        subst hr
        let w':World:={ w with heap:=w.heap.setIfInBounds b (.stringIter ⟨s.toArray⟩ (pos+(Utf8.decode ⟨s.toArray⟩ pos).2)) }
        have hrun:(execOp a.eval o).run C.P w=.ok (.value (.tuple #[.bool true,goInt pos,.int .i32 (Utf8.decode ⟨s.toArray⟩ pos).1])) w':=by
         rw [execOp,ho]
         simp only [hv,Instr.next,getObj,setObj,Sem.run_bind,Sem.run,hh,Result.andThen_ok,hsz,if_pos hpos]
         rfl
        have hother:∀ k,k≠b->w'.heap[k]?=w.heap[k]?:=fun k hk=>by simp [w',Ne.symm hk]
        obtain ⟨hs,hg⟩:=h.setBoxObj (x:=.iter s (pos+(Utf8.decode ⟨s.toArray⟩ pos).2)) (w':=w') hm hid (.iter s _ b (by simp [w',hlt])) rfl rfl rfl (by simp [w']) hother (fun t cs off e xs v hx=>by cases hx)
        refine upon_of_value hrun (hK S M _ w' (hs.put o.dst hd ?_ (fun e xs=>by simp)) hg (List.prefix_refl _) ?_)
        · refine .tup _ _ rfl (fun i h1 h2=>?_)
          match i,h1 with
          | 0,_=>exact .bool true
          | 1,_=>exact .int _ _
          | 2,_=>exact .int _ _
        · intro p hpm
          obtain ⟨m1,m2⟩:=killT_mem hpm
          have hc:=hal p m1
          obtain ⟨d',l⟩:=p
          cases l with
          | tmp t=>
           simp only [ConcEq] at hc ⊢
           rw [put_get h.size hd _ (fun k hk=>(m2 k hk).1),put_get h.size hd _ (fun k hk=>by simpa using (m2 k hk).2)]
           exact hc
          | box id' off'=>
           obtain ⟨b2,e1,e2⟩:=hc
           refine ⟨b2,e1,?_⟩
           rw [put_get h.size hd _ (fun k hk=>(m2 k hk).1)]
           have hbb:b2≠b:=by
            rintro rfl
            unfold World.cell? at e2
            simp only at e2
            rw [hh] at e2
            cases e2
           rw [World.cell?_of_block (a:=⟨b2,off',none⟩) (hother b2 hbb)]
           exact e2
      · rename_i hpos
        injection hr with hr
        subst hr
        have hrun:(execOp a.eval o).run C.P w=.ok (.value (.tuple #[.bool false])) w:=by
         rw [execOp,ho]
         simp only [hv,Instr.next,getObj,Sem.run_bind,Sem.run,hh,Result.andThen_ok,hsz,if_neg hpos]
         rfl
        refine upon_of_value hrun (hK S M _ w (h.put o.dst hd ?_ (fun e xs=>by simp)) (Grows.refl _ _ _ _) (List.prefix_refl _) (hal.put h.size hd _ (fun _ _ x=>x) (fun _ _=>rfl)))
        refine .tup _ _ rfl (fun i h1 h2=>?_)
        match i,h1 with
        | 0,_=>exact .bool false
   · cases hr
 · cases hr
theorem step_panic (h:Sim C D B T S M n st a w) {o:Oper} {al:List (Nat×Loc)} {call:CallT} (draw:Bool) {x:Operand} (ho:o.op=.panic x) {r:OpR}
 (hr:stepOp C call draw al o st=some r):StepTo C D B T S M n a w o r:=by
 intro K Q hK
 unfold stepOp at hr
 rw [ho] at hr
 simp only at hr
 split at hr
 · rename_i t v hx
   injection hr with hr
   subst hr
   have hx':=h.opd x
   rw [hx] at hx'
   cases hu:a.eval x with
   | iface t' u=>
    have hrun:(execOp a.eval o).run C.P w=.halt (.panic (.iface t' u)) w:=by
     rw [execOp,ho]
     simp only [hu,Instr.panic,Sem.run_bind,run_goPanic,Result.andThen_halt]
    unfold Oper.wp
    rw [hrun]
    show Q (.panic [{ v:=.iface t' u,recovered:=false }]) a w
    rw [hu] at hx'
    exact hK S M a w _ _ h (Grows.refl _ _ _ _) (List.prefix_refl _) hx' rfl
   | _=>rw [hu] at hx';cases hx'
 · cases hr
theorem stepOp_sound (h:Sim C D B T S M n st a w) {o:Oper} (hd:∀ k,o.dst=some k->k < n) {al:List (Nat×Loc)} (hal:AlOK M a w al) {call:CallT} (hcall:CallSound C call) (draw:Bool) {r:OpR}
 (hr:stepOp C call draw al o st=some r):StepTo C D B T S M n a w o r:=by
 have hr':=hr
 unfold stepOp at hr
 split at hr
 · rename_i x ho;exact step_assign h hd hal draw ho hr'
 · rename_i t ho
   split at hr
   · rename_i z hz
     split at hr
     · rename_i h1
       injection hr with hr;subst hr
       exact step_alloc h hd hal ho hz h1
     · cases hr
   · cases hr
 · rename_i t x ho
   simp only at hr
   split at hr
   · rename_i h1
     injection hr with hr;subst hr
     exact step_box h hd hal ho h1
   · cases hr
 · rename_i t ad x ho;exact step_store h hd hal draw ho hr'
 · rename_i t len parts ho
   split at hr
   · rename_i v hv
     injection hr with hr;subst hr
     exact step_buildSlice h hd hal ho hv
   · cases hr
 · rename_i t l c ho
   split at hr
   · rename_i v hv
     injection hr with hr;subst hr
     exact step_makeSlice h hd hal ho hv
   · cases hr
 · rename_i t x ho
   split at hr
   · rename_i s ht hs
     injection hr with hr;subst hr
     exact step_range h hd hal ho ht hs
   · cases hr
 · rename_i x ho;exact step_next h hd hal draw ho hr'
 · rename_i x ho;exact step_panic h draw ho hr'
 · rename_i args argTypes ho;exact step_append h hd hal ho hr
 · rename_i f args argTypes ho;exact step_call h hd hal hcall ho draw hr'
 · split at hr
   · rename_i v hv
     injection hr with hr;subst hr
     exact step_pure h hd hal draw hv
   · cases hr
theorem wantP_some (h:Sim C D B T S M n st a w) {ops:Array Oper} {o:Oper} {b:Bool} (hw:wantP ops st.env o=some b):Region.wanted o (yielded ops a.tmps)=b:=by
 unfold wantP at hw
 unfold Region.wanted
 split at hw
 · rename_i hg;rw [hg];injection hw
 · rename_i j want hg
   rw [hg]
   simp only
   split at hw
   · rename_i d hd
     have he:=h.env d
     have hget:a.tmps[d]?=some (a.tmps.getD d undef)∨(a.tmps[d]?=none∧a.tmps.getD d undef=undef):=by
      rcases Nat.lt_or_ge d a.tmps.size with hlt | hge
      · left;simp [Array.getD,hlt]
      · right;exact ⟨Array.getElem?_eq_none hge,by simp [Array.getD,Nat.not_lt.2 hge]⟩
     split at hw
     · rename_i bb hb
       rw [hb] at he
       have hv:=he.bool_inv
       injection hw with hw
       subst hw
       rcases hget with hg' | ⟨_,hg'⟩
       · have hy:yielded ops a.tmps j=some bb:=by simp only [yielded,hd,Option.bind_some,hg',hv]
         rw [hy]
         cases bb <;> cases want <;> rfl
       · rw [hv] at hg';cases hg'
     · rename_i vs hb
       rw [hb] at he
       obtain ⟨us,hv,_⟩:=he.tup_inv
       injection hw with hw
       subst hw
       have hy:yielded ops a.tmps j=none:=by
        rcases hget with hg' | ⟨hg',_⟩
        · simp only [yielded,hd,Option.bind_some,hg',hv]
        · simp only [yielded,hd,Option.bind_some,hg']
       rw [hy]
       cases want <;> rfl
     · cases hw
   · cases hw
def Ends (C:Cfg) (D:List Deferred) (B:Nat) (T:Nat->Prop) (S:Store) (M:List Nat) (n:Nat) (w:World) (ex:Ex) (st':St) (Q:Exit->Act->World->Prop):Prop:=
 match ex with
 | .normal=>∀ S' M' a' w',Sim C D B T S' M' n st' a' w'->Grows B T S w S' w'->M <+: M'->Q .normal a' w'
 | .exit id=>∀ S' M' a' w',Sim C D B T S' M' n st' a' w'->Grows B T S w S' w'->M <+: M'->Q (.exit id) a' w'
 | .ret=>∀ S' M' a' w',Sim C D B T S' M' n st' a' w'->Grows B T S w S' w'->M <+: M'->Q .ret a' w'
 | .pan p=>∀ S' M' a' w' x v e',(st'.env=[]∨e'=st'.env)->Sim C D B T S' M' n ⟨e',st'.bx⟩ a' w'->Grows B T S w S' w'->M <+: M'->Rep S' M' p v->x=[{ v,recovered:=false }]->Q (.panic x) a' w'
theorem Ends.of_grows {S':Store} {M':List Nat} {w':World} {ex:Ex} {st':St} {Q:Exit->Act->World->Prop} (h:Ends C D B T S M n w ex st' Q) (g:Grows B T S w S' w') (p:M <+: M'):Ends C D B T S' M' n w' ex st' Q:=by
 cases ex with
 | normal=>exact fun S2 M2 a2 w2 hs hg hp=>h S2 M2 a2 w2 hs (g.trans hg) (p.trans hp)
 | exit id=>exact fun S2 M2 a2 w2 hs hg hp=>h S2 M2 a2 w2 hs (g.trans hg) (p.trans hp)
 | ret=>exact fun S2 M2 a2 w2 hs hg hp=>h S2 M2 a2 w2 hs (g.trans hg) (p.trans hp)
 | pan _=>exact fun S2 M2 a2 w2 x v e2 he hs hg hp=>h S2 M2 a2 w2 x v e2 he hs (g.trans hg) (p.trans hp)
theorem evOps_sound {call:CallT} (hcall:CallSound C call) (draw:Bool) (ops:Array Oper) {ex:Ex} {st':St} {Q:Exit->Act->World->Prop}:∀ (l:List Oper) (al:List (Nat×Loc)) (st:St) (S:Store) (M:List Nat) (a:Act) (w:World),
 (∀ o ∈ l,∀ k,o.dst=some k->k < n)->Sim C D B T S M n st a w->AlOK M a w al->evOps C call draw ops l al st=some (ex,st')->Ends C D B T S M n w ex st' Q->wpList C.P ops Q l a w
 | [],al,st,S,M,a,w,_,h,_,he,hq=>by
  simp only [evOps,Option.some.injEq,Prod.mk.injEq] at he
  obtain ⟨rfl,rfl⟩:=he
  exact wpList_nil (hq S M a w h (Grows.refl _ _ _ _) (List.prefix_refl _))
 | o :: rest,al,st,S,M,a,w,hd,h,hal,he,hq=>by
  unfold evOps at he
  split at he
  · cases he
  · rename_i hw
    have hwant:=wantP_some h hw
    refine wpList_step fun K hK=>?_
    rw [hwant]
    simp only [Bool.false_eq_true,if_false]
    exact hK _ _ (evOps_sound hcall draw ops rest _ _ S M _ w (fun o' ho'=>hd o' (by simp [ho'])) (h.put o.dst (hd o (by simp)) (.und S M) (fun e xs=>by simp [und])) (hal.put h.size (hd o (by simp)) _ (fun _ _ x=>x) (fun _ _=>rfl)) he hq)
  · rename_i hw
    have hwant:=wantP_some h hw
    refine wpList_step fun K hK=>?_
    rw [hwant]
    simp only [if_true]
    split at he
    · cases he
    · rename_i st1 al1 hs
      refine stepOp_sound h (hd o (by simp)) hal hcall draw hs K Q ?_
      intro S1 M1 a1 w1 h1 g1 p1 hal1
      exact hK _ _ (evOps_sound hcall draw ops rest _ _ S1 M1 a1 w1 (fun o' ho'=>hd o' (by simp [ho'])) h1 hal1 he (hq.of_grows g1 p1))
    · rename_i v st1 hs
      injection he with he
      injection he with e1 e2
      subst e1
      subst e2
      exact stepOp_sound h (hd o (by simp)) hal hcall draw hs K Q (fun S' M' a' w' x u hs' hg hp hr hx=>hq S' M' a' w' x u _ (.inr rfl) hs' hg hp hr hx)
end
end Go.HH
