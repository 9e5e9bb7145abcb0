/-
  What the law needs, packed: Region.
-/
import Derived.Test.YthjcaihemgllaaaGreatDoorK18
open List renaming prefix_refl->Aau
open Option renaming bind_some->Aav
open Go.Sem renaming run_bind->Aaw
open Go.Utf8 renaming decode->Aax
open Go.Result renaming andThen_ok->Aay
open Go.Region renaming wanted->Aaz
open Nat renaming lt_or_ge->Ab0
open Go.Instr renaming next->Ab1
open Array renaming getD->Ab2
namespace Go.HH
open Go Go.RowKit
section
variable {C:Cfg} {D:List Deferred} {B:Nat} {T:Nat->Prop} {S:AJ} {M:List Nat} {n:Nat} {st:St} {a:Act} {w:World}
theorem fk (h:Sim C D B T S M n st a w) {o:Oper} (hd:∀ k,o.dst=some k->k < n) {al:List (Nat×Loc)} (FF:GK M a w al) {call:Cn} (draw:Bool) {x:Operand} (ho:o.op=.next x true) {r:OpR}
 (hr:Bq C call draw al o st=some r):Fg C D B T S M n a w o r:=by
 intro K Q hK;unfold Bq at hr;rw [ho] at hr;simp only at hr;split at hr
 · rename_i id hx
   have Gz:=h.opd x;rw [hx] at Gz;obtain ⟨b,hm,hv⟩:=Gz.bp_inv;split at hr
   · rename_i s pos hb
     obtain ⟨b',HA,O4⟩:=h.boxes id _ hb;rw [hm] at HA;injection HA with HA
     subst HA
     have hid:id < st.bx.length:=by
      rcases Ab0 id st.bx.length with h | h
      · exact h
      · rw [List.getElem?_eq_none h] at hb;cases hb
     cases O4 with
     | iter s pos b hh=>
      have BC:=(Array.getElem?_eq_some_iff.1 hh).1;have I4:(⟨s.toArray⟩:ByteArray).size=s.length:=by simp [ByteArray.size]
      split at hr
      · rename_i iw
        injection hr with hr
        subst hr
        let w':World:={ w with heap:=w.heap.setIfInBounds b (.stringIter ⟨s.toArray⟩ (pos+(Aax ⟨s.toArray⟩ pos).2)) }
        have BV:(execOp a.eval o).run C.P w=.ok (.value (.tuple #[.bool true,goInt pos,.int .i32 (Aax ⟨s.toArray⟩ pos).1])) w':=by
         rw [execOp,ho];simp only [hv,Ab1,getObj,setObj,Aaw,Sem.run,hh,Aay,I4,if_pos iw];rfl
        have hother:∀ k,k≠b->w'.heap[k]?=w.heap[k]?:=fun k hk=>by simp [w',Ne.symm hk]
        obtain ⟨hs,hg⟩:=h.setBoxObj (x:=.iter s (pos+(Aax ⟨s.toArray⟩ pos).2)) (w':=w') hm hid (.iter s _ b (by simp [w',BC])) rfl rfl rfl (by simp [w']) hother (fun t cs off e xs v hx=>by cases hx);refine Cg BV (hK S M _ w' (hs.put o.dst hd ?_ (fun e xs=>by simp)) hg (Aau _) ?_)
        · refine .tup _ _ rfl (fun i h1 h2=>?_)
          match i,h1 with
          | 0,_=>exact .bool true
          | 1,_=>exact .int _ _
          | 2,_=>exact .int _ _
        · intro p eP
          obtain ⟨m1,m2⟩:=EU eP;have hc:=FF p m1;obtain ⟨d',l⟩:=p;cases l with
          | tmp t=>
           simp only [I9] at hc |-;rw [CP h.size hd _ (fun k hk=>(m2 k hk).1),CP h.size hd _ (fun k hk=>by simpa using (m2 k hk).2)];exact hc
          | box id' off'=>
           obtain ⟨b2,e1,e2⟩:=hc;refine ⟨b2,e1,?_⟩;rw [CP h.size hd _ (fun k hk=>(m2 k hk).1)]
           have hbb:b2≠b:=by
            rintro rfl
            unfold World.cell? at e2;simp only at e2;rw [hh] at e2;cases e2
           rw [World.cell?_of_block (a:=⟨b2,off',none⟩) (hother b2 hbb)];exact e2
      · rename_i iw
        injection hr with hr
        subst hr
        have BV:(execOp a.eval o).run C.P w=.ok (.value (.tuple #[.bool false])) w:=by
         rw [execOp,ho];simp only [hv,Ab1,getObj,Aaw,Sem.run,hh,Aay,I4,if_neg iw];rfl
        refine Cg BV (hK S M _ w (h.put o.dst hd ?_ (fun e xs=>by simp)) (Grows.refl _ _ _ _) (Aau _) (FF.put h.size hd _ (fun _ _ x=>x) (fun _ _=>rfl)));refine .tup _ _ rfl (fun i h1 h2=>?_)
        match i,h1 with
        | 0,_=>exact .bool false
   · cases hr
 · cases hr
theorem aA (h:Sim C D B T S M n st a w) {o:Oper} {al:List (Nat×Loc)} {call:Cn} (draw:Bool) {x:Operand} (ho:o.op=.panic x) {r:OpR}
 (hr:Bq C call draw al o st=some r):Fg C D B T S M n a w o r:=by
 intro K Q hK;unfold Bq at hr;rw [ho] at hr;simp only at hr;split at hr
 · rename_i t v hx
   injection hr with hr
   subst hr;have Gz:=h.opd x;rw [hx] at Gz;cases hu:a.eval x with
   | iface t' u=>
    have BV:(execOp a.eval o).run C.P w=.halt (.panic (.iface t' u)) w:=by
     rw [execOp,ho];simp only [hu,Instr.panic,Aaw,run_goPanic,Result.andThen_halt]
    unfold Oper.wp;rw [BV];show Q (.panic [{ v:=.iface t' u,recovered:=false }]) a w;rw [hu] at Gz;exact hK S M a w _ _ h (Grows.refl _ _ _ _) (Aau _) Gz rfl
   | _=>rw [hu] at Gz;cases Gz
 · cases hr
theorem I' (h:Sim C D B T S M n st a w) {o:Oper} (hd:∀ k,o.dst=some k->k < n) {al:List (Nat×Loc)} (FF:GK M a w al) {call:Cn} (Bo:DY C call) (draw:Bool) {r:OpR}
 (hr:Bq C call draw al o st=some r):Fg C D B T S M n a w o r:=by
 have VR:=hr;unfold Bq at hr;split at hr
 · rename_i x ho;exact X3 h hd FF draw ho VR
 · rename_i t ho
   split at hr
   · rename_i z hz
     split at hr
     · rename_i h1
       injection hr with hr;subst hr
       exact ax h hd FF ho hz h1
     · cases hr
   · cases hr
 · rename_i t x ho
   simp only at hr;split at hr
   · rename_i h1
     injection hr with hr;subst hr
     exact iV h hd FF ho h1
   · cases hr
 · rename_i t ad x ho;exact az h hd FF draw ho VR
 · rename_i t len parts ho
   split at hr
   · rename_i v hv
     injection hr with hr;subst hr
     exact PB h hd FF ho hv
   · cases hr
 · rename_i t l c ho
   split at hr
   · rename_i v hv
     injection hr with hr;subst hr
     exact Q7 h hd FF ho hv
   · cases hr
 · rename_i t x ho
   split at hr
   · rename_i s ht hs
     injection hr with hr;subst hr
     exact ay h hd FF ho ht hs
   · cases hr
 · rename_i x ho;exact fk h hd FF draw ho VR
 · rename_i x ho;exact aA h draw ho VR
 · rename_i args argTypes ho;exact step_append h hd FF ho hr
 · rename_i f args argTypes ho;exact fj h hd FF Bo ho draw VR
 · split at hr
   · rename_i v hv
     injection hr with hr;subst hr
     exact fi h hd FF draw hv
   · cases hr
theorem Ja (h:Sim C D B T S M n st a w) {ops:Array Oper} {o:Oper} {b:Bool} (hw:GB ops st.env o=some b):Aaz o (yielded ops a.tmps)=b:=by
 unfold GB at hw;unfold Aaz;split at hw
 · rename_i hg;rw [hg];injection hw
 · rename_i j want hg
   rw [hg];simp only;split at hw
   · rename_i d hd
     have he:=h.env d
     have Hs:a.tmps[d]?=some (a.tmps.getD d undef)\/(a.tmps[d]?=none/\a.tmps.getD d undef=undef):=by
      rcases Ab0 d a.tmps.size with BC | Qy
      · left;simp [Ab2,BC]
      · right;exact ⟨Array.getElem?_eq_none Qy,by simp [Ab2,Nat.not_lt.2 Qy]⟩
     split at hw
     · rename_i bb hb
       rw [hb] at he;have hv:=he.bool_inv;injection hw with hw
       subst hw;rcases Hs with D4 | ⟨_,D4⟩
       · have hy:yielded ops a.tmps j=some bb:=by simp only [yielded,hd,Aav,D4,hv]
         rw [hy];cases bb <;> cases want <;> rfl
       · rw [hv] at D4;cases D4
     · rename_i vs hb
       rw [hb] at he;obtain ⟨us,hv,_⟩:=he.tup_inv;injection hw with hw
       subst hw
       have hy:yielded ops a.tmps j=none:=by
        rcases Hs with D4 | ⟨D4,_⟩
        · simp only [yielded,hd,Aav,D4,hv]
        · simp only [yielded,hd,Aav,D4]
       rw [hy];cases want <;> rfl
     · cases hw
   · cases hw
def Ends (C:Cfg) (D:List Deferred) (B:Nat) (T:Nat->Prop) (S:AJ) (M:List Nat) (n:Nat) (w:World) (ex:Ex) (st':St) (Q:Exit->Act->World->Prop):Prop:=
 match ex with
 | .normal=>∀ S' M' a' w',Sim C D B T S' M' n st' a' w'->Grows B T S w S' w'->M <+: M'->Q .normal a' w'
 | .exit id=>∀ S' M' a' w',Sim C D B T S' M' n st' a' w'->Grows B T S w S' w'->M <+: M'->Q (.exit id) a' w'
 | .ret=>∀ S' M' a' w',Sim C D B T S' M' n st' a' w'->Grows B T S w S' w'->M <+: M'->Q .ret a' w'
 | .pan p=>∀ S' M' a' w' x v e',(st'.env=[]\/e'=st'.env)->Sim C D B T S' M' n ⟨e',st'.bx⟩ a' w'->Grows B T S w S' w'->M <+: M'->Rep S' M' p v->x=[{ v,recovered:=false }]->Q (.panic x) a' w'
theorem Ends.of_grows {S':AJ} {M':List Nat} {w':World} {ex:Ex} {st':St} {Q:Exit->Act->World->Prop} (h:Ends C D B T S M n w ex st' Q) (g:Grows B T S w S' w') (p:M <+: M'):Ends C D B T S' M' n w' ex st' Q:=by
 cases ex with
 | normal=>exact fun S2 M2 a2 w2 hs hg hp=>h S2 M2 a2 w2 hs (g.trans hg) (p.trans hp)
 | exit id=>exact fun S2 M2 a2 w2 hs hg hp=>h S2 M2 a2 w2 hs (g.trans hg) (p.trans hp)
 | ret=>exact fun S2 M2 a2 w2 hs hg hp=>h S2 M2 a2 w2 hs (g.trans hg) (p.trans hp)
 | pan _=>exact fun S2 M2 a2 w2 x v e2 he hs hg hp=>h S2 M2 a2 w2 x v e2 he hs (g.trans hg) (p.trans hp)
theorem CW {call:Cn} (Bo:DY C call) (draw:Bool) (ops:Array Oper) {ex:Ex} {st':St} {Q:Exit->Act->World->Prop}:∀ (l:List Oper) (al:List (Nat×Loc)) (st:St) (S:AJ) (M:List Nat) (a:Act) (w:World),
 (∀ o ∈ l,∀ k,o.dst=some k->k < n)->Sim C D B T S M n st a w->GK M a w al->evOps C call draw ops l al st=some (ex,st')->Ends C D B T S M n w ex st' Q->wpList C.P ops Q l a w
 | [],al,st,S,M,a,w,_,h,_,he,hq=>by
  simp only [evOps,Option.some.injEq,Prod.mk.injEq] at he;obtain ⟨rfl,rfl⟩:=he;exact wpList_nil (hq S M a w h (Grows.refl _ _ _ _) (Aau _))
 | o :: rest,al,st,S,M,a,w,hd,h,FF,he,hq=>by
  unfold evOps at he;split at he
  · cases he
  · rename_i hw
    have mY:=Ja h hw;refine wpList_step fun K hK=>?_;rw [mY];simp only [Bool.false_eq_true,if_false];exact hK _ _ (CW Bo draw ops rest _ _ S M _ w (fun o' UF=>hd o' (by simp [UF])) (h.put o.dst (hd o (by simp)) (.und S M) (fun e xs=>by simp [und])) (FF.put h.size (hd o (by simp)) _ (fun _ _ x=>x) (fun _ _=>rfl)) he hq)
  · rename_i hw
    have mY:=Ja h hw;refine wpList_step fun K hK=>?_;rw [mY];simp only [if_true];split at he
    · cases he
    · rename_i st1 al1 hs
      refine I' h (hd o (by simp)) FF Bo draw hs K Q ?_;intro S1 M1 a1 w1 h1 g1 p1 hal1;exact hK _ _ (CW Bo draw ops rest _ _ S1 M1 a1 w1 (fun o' UF=>hd o' (by simp [UF])) h1 hal1 he (hq.of_grows g1 p1))
    · rename_i v st1 hs
      injection he with he
      injection he with e1 e2
      subst e1;subst e2;exact I' h (hd o (by simp)) FF Bo draw hs K Q (fun S' M' a' w' x u hs' hg hp hr hx=>hq S' M' a' w' x u _ (.inr rfl) hs' hg hp hr hx)
end
end Go.HH
