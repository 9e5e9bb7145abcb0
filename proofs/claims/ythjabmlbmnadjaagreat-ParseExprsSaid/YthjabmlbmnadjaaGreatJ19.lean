/-
  What the law needs, packed: Region.
-/
import Derived.Test.YthjabmlbmnadjaaGreatJ18
open List renaming prefix_refl->yW
open Option renaming bind_some->yX
open Go.Sem renaming run_bind->yY
open Go.Utf8 renaming decode->yZ
open Go.Result renaming andThen_ok->y0
open Go.Region renaming wanted->y1
open Nat renaming lt_or_ge->y2
open Go.Instr renaming next->y3
open Array renaming getD->y4
open ByteArray renaming size->y5
namespace Go.HH
open Go Go.RowKit
section
variable {C:Cfg} {D:List Deferred} {B:Nat} {T:Nat->Prop} {S:AY} {M:List Nat} {n:Nat} {st:St} {a:Act} {w:World}
theorem fQ (h:Sim C D B T S M n st a w) {o:Oper} (hd:∀ k,o.dst=some k->k < n) {al:List (Nat×Loc)} (Hb:Hu M a w al) {call:C4} (draw:Bool) {x:Operand} (ho:o.op=.next x true) {r:OpR}
 (hr:BR C call draw al o st=some r):F5 C D B T S M n a w o r:=by
 intro K Q hK;unfold BR at hr;rw [ho] at hr;simp only at hr;split at hr
 · rename_i id hx
   have Ie:=h.opd x;rw [hx] at Ie;obtain ⟨b,hm,hv⟩:=Ie.bp_inv;split at hr
   · rename_i s pos hb
     obtain ⟨b',Im,P9⟩:=h.boxes id _ hb;rw [hm] at Im;injection Im with Im
     subst Im
     have Ad:id < st.bx.length:=by
      rcases y2 id st.bx.length with h | h
      · exact h
      · rw [List.getElem?_eq_none h] at hb;cases hb
     cases P9 with
     | iter s pos b hh=>
      have Bq:=(Array.getElem?_eq_some_iff.1 hh).1;have JE:(⟨s.toArray⟩:ByteArray).size=s.length:=by simp [y5]
      split at hr
      · rename_i iy
        injection hr with hr
        subst hr
        let w':World:={ w with heap:=w.heap.setIfInBounds b (.stringIter ⟨s.toArray⟩ (pos+(yZ ⟨s.toArray⟩ pos).2)) }
        have CA:(execOp a.eval o).run C.P w=.ok (.value (.tuple #[.bool true,goInt pos,.int .i32 (yZ ⟨s.toArray⟩ pos).1])) w':=by
         rw [execOp,ho];simp only [hv,y3,getObj,setObj,yY,Sem.run,hh,y0,JE,if_pos iy];rfl
        have hother:∀ k,k≠b->w'.heap[k]?=w.heap[k]?:=fun k hk=>by simp [w',Ne.symm hk]
        obtain ⟨hs,hg⟩:=h.setBoxObj (x:=.iter s (pos+(yZ ⟨s.toArray⟩ pos).2)) (w':=w') hm Ad (.iter s _ b (by simp [w',Bq])) rfl rfl rfl (by simp [w']) hother (fun t cs off e xs v hx=>by cases hx);refine CG CA (hK S M _ w' (hs.put o.dst hd ?_ (fun e xs=>by simp)) hg (yW _) ?_)
        · refine .tup _ _ rfl (fun i h1 h2=>?_)
          match i,h1 with
          | 0,_=>exact .bool true
          | 1,_=>exact .int _ _
          | 2,_=>exact .int _ _
        · intro p iQ
          obtain ⟨m1,m2⟩:=FJ iQ;have hc:=Hb p m1;obtain ⟨d',l⟩:=p;cases l with
          | tmp t=>
           simp only [JM] at hc |-;rw [Dv h.size hd _ (fun k hk=>(m2 k hk).1),Dv h.size hd _ (fun k hk=>by simpa using (m2 k hk).2)];exact hc
          | box id' off'=>
           obtain ⟨b2,e1,e2⟩:=hc;refine ⟨b2,e1,?_⟩;rw [Dv h.size hd _ (fun k hk=>(m2 k hk).1)]
           have xO:b2≠b:=by
            rintro rfl
            unfold World.cell? at e2;simp only at e2;rw [hh] at e2;cases e2
           rw [World.cell?_of_block (a:=⟨b2,off',none⟩) (hother b2 xO)];exact e2
      · rename_i iy
        injection hr with hr
        subst hr
        have CA:(execOp a.eval o).run C.P w=.ok (.value (.tuple #[.bool false])) w:=by
         rw [execOp,ho];simp only [hv,y3,getObj,yY,Sem.run,hh,y0,JE,if_neg iy];rfl
        refine CG CA (hK S M _ w (h.put o.dst hd ?_ (fun e xs=>by simp)) (Grows.refl _ _ _ _) (yW _) (Hb.put h.size hd _ (fun _ _ x=>x) (fun _ _=>rfl)));refine .tup _ _ rfl (fun i h1 h2=>?_)
        match i,h1 with
        | 0,_=>exact .bool false
   · cases hr
 · cases hr
theorem bS (h:Sim C D B T S M n st a w) {o:Oper} {al:List (Nat×Loc)} {call:C4} (draw:Bool) {x:Operand} (ho:o.op=.panic x) {r:OpR}
 (hr:BR C call draw al o st=some r):F5 C D B T S M n a w o r:=by
 intro K Q hK;unfold BR at hr;rw [ho] at hr;simp only at hr;split at hr
 · rename_i t v hx
   injection hr with hr
   subst hr;have Ie:=h.opd x;rw [hx] at Ie;cases hu:a.eval x with
   | iface t' u=>
    have CA:(execOp a.eval o).run C.P w=.halt (.panic (.iface t' u)) w:=by
     rw [execOp,ho];simp only [hu,Instr.panic,yY,run_goPanic,Result.andThen_halt]
    unfold Oper.wp;rw [CA];show Q (.panic [{ v:=.iface t' u,recovered:=false }]) a w;rw [hu] at Ie;exact hK S M a w _ _ h (Grows.refl _ _ _ _) (yW _) Ie rfl
   | _=>rw [hu] at Ie;cases Ie
 · cases hr
theorem JN (h:Sim C D B T S M n st a w) {o:Oper} (hd:∀ k,o.dst=some k->k < n) {al:List (Nat×Loc)} (Hb:Hu M a w al) {call:C4} (BD:EH C call) (draw:Bool) {r:OpR}
 (hr:BR C call draw al o st=some r):F5 C D B T S M n a w o r:=by
 have WL:=hr;unfold BR at hr;split at hr
 · rename_i x ho;exact YY h hd Hb draw ho WL
 · rename_i t ho
   split at hr
   · rename_i z hz
     split at hr
     · rename_i h1
       injection hr with hr;subst hr
       exact bP h hd Hb ho hz h1
     · cases hr
   · cases hr
 · rename_i t x ho
   simp only at hr;split at hr
   · rename_i h1
     injection hr with hr;subst hr
     exact ji h hd Hb ho h1
   · cases hr
 · rename_i t ad x ho;exact bR h hd Hb draw ho WL
 · rename_i t len parts ho
   split at hr
   · rename_i v hv
     injection hr with hr;subst hr
     exact QH h hd Hb ho hv
   · cases hr
 · rename_i t l c ho
   split at hr
   · rename_i v hv
     injection hr with hr;subst hr
     exact R4 h hd Hb ho hv
   · cases hr
 · rename_i t x ho
   split at hr
   · rename_i s ht hs
     injection hr with hr;subst hr
     exact bQ h hd Hb ho ht hs
   · cases hr
 · rename_i x ho;exact fQ h hd Hb draw ho WL
 · rename_i x ho;exact bS h draw ho WL
 · rename_i args argTypes ho;exact step_append h hd Hb ho hr
 · rename_i f args argTypes ho;exact fP h hd Hb BD ho draw WL
 · split at hr
   · rename_i v hv
     injection hr with hr;subst hr
     exact fO h hd Hb draw hv
   · cases hr
theorem JO (h:Sim C D B T S M n st a w) {ops:Array Oper} {o:Oper} {b:Bool} (hw:Is ops st.env o=some b):y1 o (yielded ops a.tmps)=b:=by
 unfold Is at hw;unfold y1;split at hw
 · rename_i hg;rw [hg];injection hw
 · rename_i j want hg
   rw [hg];simp only;split at hw
   · rename_i d hd
     have he:=h.env d
     have D4:a.tmps[d]?=some (a.tmps.getD d undef)\/(a.tmps[d]?=none/\a.tmps.getD d undef=undef):=by
      rcases y2 d a.tmps.size with Bq | Mg
      · left;simp [y4,Bq]
      · right;exact ⟨Array.getElem?_eq_none Mg,by simp [y4,Nat.not_lt.2 Mg]⟩
     split at hw
     · rename_i bb hb
       rw [hb] at he;have hv:=he.bool_inv;injection hw with hw
       subst hw;rcases D4 with Fs | ⟨_,Fs⟩
       · have hy:yielded ops a.tmps j=some bb:=by simp only [yielded,hd,yX,Fs,hv]
         rw [hy];cases bb <;> cases want <;> rfl
       · rw [hv] at Fs;cases Fs
     · rename_i vs hb
       rw [hb] at he;obtain ⟨us,hv,_⟩:=he.tup_inv;injection hw with hw
       subst hw
       have hy:yielded ops a.tmps j=none:=by
        rcases D4 with Fs | ⟨Fs,_⟩
        · simp only [yielded,hd,yX,Fs,hv]
        · simp only [yielded,hd,yX,Fs]
       rw [hy];cases want <;> rfl
     · cases hw
   · cases hw
def Ends (C:Cfg) (D:List Deferred) (B:Nat) (T:Nat->Prop) (S:AY) (M:List Nat) (n:Nat) (w:World) (ex:Ex) (st':St) (Q:Exit->Act->World->Prop):Prop:=
 match ex with
 | .normal=>∀ S' M' a' w',Sim C D B T S' M' n st' a' w'->Grows B T S w S' w'->M <+: M'->Q .normal a' w'
 | .exit id=>∀ S' M' a' w',Sim C D B T S' M' n st' a' w'->Grows B T S w S' w'->M <+: M'->Q (.exit id) a' w'
 | .ret=>∀ S' M' a' w',Sim C D B T S' M' n st' a' w'->Grows B T S w S' w'->M <+: M'->Q .ret a' w'
 | .pan p=>∀ S' M' a' w' x v e',(st'.env=[]\/e'=st'.env)->Sim C D B T S' M' n ⟨e',st'.bx⟩ a' w'->Grows B T S w S' w'->M <+: M'->Rep S' M' p v->x=[{ v,recovered:=false }]->Q (.panic x) a' w'
theorem Ends.of_grows {S':AY} {M':List Nat} {w':World} {ex:Ex} {st':St} {Q:Exit->Act->World->Prop} (h:Ends C D B T S M n w ex st' Q) (g:Grows B T S w S' w') (p:M <+: M'):Ends C D B T S' M' n w' ex st' Q:=by
 cases ex with
 | normal=>exact fun S2 M2 a2 w2 hs hg hp=>h S2 M2 a2 w2 hs (g.trans hg) (p.trans hp)
 | exit id=>exact fun S2 M2 a2 w2 hs hg hp=>h S2 M2 a2 w2 hs (g.trans hg) (p.trans hp)
 | ret=>exact fun S2 M2 a2 w2 hs hg hp=>h S2 M2 a2 w2 hs (g.trans hg) (p.trans hp)
 | pan _=>exact fun S2 M2 a2 w2 x v e2 he hs hg hp=>h S2 M2 a2 w2 x v e2 he hs (g.trans hg) (p.trans hp)
theorem DB {call:C4} (BD:EH C call) (draw:Bool) (ops:Array Oper) {ex:Ex} {st':St} {Q:Exit->Act->World->Prop}:∀ (l:List Oper) (al:List (Nat×Loc)) (st:St) (S:AY) (M:List Nat) (a:Act) (w:World),
 (∀ o ∈ l,∀ k,o.dst=some k->k < n)->Sim C D B T S M n st a w->Hu M a w al->evOps C call draw ops l al st=some (ex,st')->Ends C D B T S M n w ex st' Q->wpList C.P ops Q l a w
 | [],al,st,S,M,a,w,_,h,_,he,hq=>by
  simp only [evOps,Option.some.injEq,Prod.mk.injEq] at he;obtain ⟨rfl,rfl⟩:=he;exact wpList_nil (hq S M a w h (Grows.refl _ _ _ _) (yW _))
 | o :: rest,al,st,S,M,a,w,hd,h,Hb,he,hq=>by
  unfold evOps at he;split at he
  · cases he
  · rename_i hw
    have l6:=JO h hw;refine wpList_step fun K hK=>?_;rw [l6];simp only [Bool.false_eq_true,if_false];exact hK _ _ (DB BD draw ops rest _ _ S M _ w (fun o' dK=>hd o' (by simp [dK])) (h.put o.dst (hd o (by simp)) (.und S M) (fun e xs=>by simp [und])) (Hb.put h.size (hd o (by simp)) _ (fun _ _ x=>x) (fun _ _=>rfl)) he hq)
  · rename_i hw
    have l6:=JO h hw;refine wpList_step fun K hK=>?_;rw [l6];simp only [if_true];split at he
    · cases he
    · rename_i st1 al1 hs
      refine JN h (hd o (by simp)) Hb BD draw hs K Q ?_;intro S1 M1 a1 w1 h1 g1 p1 hal1;exact hK _ _ (DB BD draw ops rest _ _ S1 M1 a1 w1 (fun o' dK=>hd o' (by simp [dK])) h1 hal1 he (hq.of_grows g1 p1))
    · rename_i v st1 hs
      injection he with he
      injection he with e1 e2
      subst e1;subst e2;exact JN h (hd o (by simp)) Hb BD draw hs K Q (fun S' M' a' w' x u hs' hg hp hr hx=>hq S' M' a' w' x u _ (.inr rfl) hs' hg hp hr hx)
end
end Go.HH
