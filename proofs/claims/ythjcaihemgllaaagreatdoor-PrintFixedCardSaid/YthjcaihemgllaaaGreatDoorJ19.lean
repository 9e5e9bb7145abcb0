/-
  What the law needs, packed: Region.
-/
import Derived.Test.YthjcaihemgllaaaGreatDoorJ18
open List renaming prefix_refl->Aa0
open Option renaming bind_some->Aa1
open Go.Sem renaming run_bind->Aa2
open Go.Utf8 renaming decode->Aa3
open Go.Result renaming andThen_ok->Aa4
open Go.Region renaming wanted->Aa5
open Nat renaming lt_or_ge->Aa6
open Go.Instr renaming next->Aa7
open Array renaming getD->Aa8
namespace Go.HH
open Go Go.RowKit
section
variable {C:Cfg} {D:List Deferred} {B:Nat} {T:Nat->Prop} {S:AI} {M:List Nat} {n:Nat} {st:St} {a:Act} {w:World}
theorem eK (h:Sim C D B T S M n st a w) {o:Oper} (hd:∀ k,o.dst=some k->k < n) {al:List (Nat×Loc)} (Gs:GJ M a w al) {call:Cl} (draw:Bool) {x:Operand} (ho:o.op=.next x true) {r:OpR}
 (hr:Bp C call draw al o st=some r):Fj C D B T S M n a w o r:=by
 intro K Q hK;unfold Bp at hr;rw [ho] at hr;simp only at hr;split at hr
 · rename_i id hx
   have Hw:=h.opd x;rw [hx] at Hw;obtain ⟨b,hm,hv⟩:=Hw.bp_inv;split at hr
   · rename_i s pos hb
     obtain ⟨b',Hv,OT⟩:=h.boxes id _ hb;rw [hm] at Hv;injection Hv with Hv
     subst Hv
     have hid:id < st.bx.length:=by
      rcases Aa6 id st.bx.length with h | h
      · exact h
      · rw [List.getElem?_eq_none h] at hb;cases hb
     cases OT with
     | iter s pos b hh=>
      have Bz:=(Array.getElem?_eq_some_iff.1 hh).1;have IV:(⟨s.toArray⟩:ByteArray).size=s.length:=by simp [ByteArray.size]
      split at hr
      · rename_i gW
        injection hr with hr
        subst hr
        let w':World:={ w with heap:=w.heap.setIfInBounds b (.stringIter ⟨s.toArray⟩ (pos+(Aa3 ⟨s.toArray⟩ pos).2)) }
        have BW:(execOp a.eval o).run C.P w=.ok (.value (.tuple #[.bool true,goInt pos,.int .i32 (Aa3 ⟨s.toArray⟩ pos).1])) w':=by
         rw [execOp,ho];simp only [hv,Aa7,getObj,setObj,Aa2,Sem.run,hh,Aa4,IV,if_pos gW];rfl
        have hother:∀ k,k≠b->w'.heap[k]?=w.heap[k]?:=fun k hk=>by simp [w',Ne.symm hk]
        obtain ⟨hs,hg⟩:=h.setBoxObj (x:=.iter s (pos+(Aa3 ⟨s.toArray⟩ pos).2)) (w':=w') hm hid (.iter s _ b (by simp [w',Bz])) rfl rfl rfl (by simp [w']) hother (fun t cs off e xs v hx=>by cases hx);refine Ce BW (hK S M _ w' (hs.put o.dst hd ?_ (fun e xs=>by simp)) hg (Aa0 _) ?_)
        · refine .tup _ _ rfl (fun i h1 h2=>?_)
          match i,h1 with
          | 0,_=>exact .bool true
          | 1,_=>exact .int _ _
          | 2,_=>exact .int _ _
        · intro p ek
          obtain ⟨m1,m2⟩:=EU ek;have hc:=Gs p m1;obtain ⟨d',l⟩:=p;cases l with
          | tmp t=>
           simp only [IZ] at hc |-;rw [CP h.size hd _ (fun k hk=>(m2 k hk).1),CP h.size hd _ (fun k hk=>by simpa using (m2 k hk).2)];exact hc
          | box id' off'=>
           obtain ⟨b2,e1,e2⟩:=hc;refine ⟨b2,e1,?_⟩;rw [CP h.size hd _ (fun k hk=>(m2 k hk).1)]
           have hbb:b2≠b:=by
            rintro rfl
            unfold World.cell? at e2;simp only at e2;rw [hh] at e2;cases e2
           rw [World.cell?_of_block (a:=⟨b2,off',none⟩) (hother b2 hbb)];exact e2
      · rename_i gW
        injection hr with hr
        subst hr
        have BW:(execOp a.eval o).run C.P w=.ok (.value (.tuple #[.bool false])) w:=by
         rw [execOp,ho];simp only [hv,Aa7,getObj,Aa2,Sem.run,hh,Aa4,IV,if_neg gW];rfl
        refine Ce BW (hK S M _ w (h.put o.dst hd ?_ (fun e xs=>by simp)) (Grows.refl _ _ _ _) (Aa0 _) (Gs.put h.size hd _ (fun _ _ x=>x) (fun _ _=>rfl)));refine .tup _ _ rfl (fun i h1 h2=>?_)
        match i,h1 with
        | 0,_=>exact .bool false
   · cases hr
 · cases hr
theorem Z1 (h:Sim C D B T S M n st a w) {o:Oper} {al:List (Nat×Loc)} {call:Cl} (draw:Bool) {x:Operand} (ho:o.op=.panic x) {r:OpR}
 (hr:Bp C call draw al o st=some r):Fj C D B T S M n a w o r:=by
 intro K Q hK;unfold Bp at hr;rw [ho] at hr;simp only at hr;split at hr
 · rename_i t v hx
   injection hr with hr
   subst hr;have Hw:=h.opd x;rw [hx] at Hw;cases hu:a.eval x with
   | iface t' u=>
    have BW:(execOp a.eval o).run C.P w=.halt (.panic (.iface t' u)) w:=by
     rw [execOp,ho];simp only [hu,Instr.panic,Aa2,run_goPanic,Result.andThen_halt]
    unfold Oper.wp;rw [BW];show Q (.panic [{ v:=.iface t' u,recovered:=false }]) a w;rw [hu] at Hw;exact hK S M a w _ _ h (Grows.refl _ _ _ _) (Aa0 _) Hw rfl
   | _=>rw [hu] at Hw;cases Hw
 · cases hr
theorem I0 (h:Sim C D B T S M n st a w) {o:Oper} (hd:∀ k,o.dst=some k->k < n) {al:List (Nat×Loc)} (Gs:GJ M a w al) {call:Cl} (Bn:DX C call) (draw:Bool) {r:OpR}
 (hr:Bp C call draw al o st=some r):Fj C D B T S M n a w o r:=by
 have VE:=hr;unfold Bp at hr;split at hr
 · rename_i x ho;exact XO h hd Gs draw ho VE
 · rename_i t ho
   split at hr
   · rename_i z hz
     split at hr
     · rename_i h1
       injection hr with hr;subst hr
       exact ZY h hd Gs ho hz h1
     · cases hr
   · cases hr
 · rename_i t x ho
   simp only at hr;split at hr
   · rename_i h1
     injection hr with hr;subst hr
     exact iw h hd Gs ho h1
   · cases hr
 · rename_i t ad x ho;exact Z0 h hd Gs draw ho VE
 · rename_i t len parts ho
   split at hr
   · rename_i v hv
     injection hr with hr;subst hr
     exact Po h hd Gs ho hv
   · cases hr
 · rename_i t l c ho
   split at hr
   · rename_i v hv
     injection hr with hr;subst hr
     exact QV h hd Gs ho hv
   · cases hr
 · rename_i t x ho
   split at hr
   · rename_i s ht hs
     injection hr with hr;subst hr
     exact ZZ h hd Gs ho ht hs
   · cases hr
 · rename_i x ho;exact eK h hd Gs draw ho VE
 · rename_i x ho;exact Z1 h draw ho VE
 · rename_i args argTypes ho;exact step_append h hd Gs ho hr
 · rename_i f args argTypes ho;exact eJ h hd Gs Bn ho draw VE
 · split at hr
   · rename_i v hv
     injection hr with hr;subst hr
     exact eI h hd Gs draw hv
   · cases hr
theorem I2 (h:Sim C D B T S M n st a w) {ops:Array Oper} {o:Oper} {b:Bool} (hw:GA ops st.env o=some b):Aa5 o (yielded ops a.tmps)=b:=by
 unfold GA at hw;unfold Aa5;split at hw
 · rename_i hg;rw [hg];injection hw
 · rename_i j want hg
   rw [hg];simp only;split at hw
   · rename_i d hd
     have he:=h.env d
     have Hn:a.tmps[d]?=some (a.tmps.getD d undef)\/(a.tmps[d]?=none/\a.tmps.getD d undef=undef):=by
      rcases Aa6 d a.tmps.size with Bz | QJ
      · left;simp [Aa8,Bz]
      · right;exact ⟨Array.getElem?_eq_none QJ,by simp [Aa8,Nat.not_lt.2 QJ]⟩
     split at hw
     · rename_i bb hb
       rw [hb] at he;have hv:=he.bool_inv;injection hw with hw
       subst hw;rcases Hn with D5 | ⟨_,D5⟩
       · have hy:yielded ops a.tmps j=some bb:=by simp only [yielded,hd,Aa1,D5,hv]
         rw [hy];cases bb <;> cases want <;> rfl
       · rw [hv] at D5;cases D5
     · rename_i vs hb
       rw [hb] at he;obtain ⟨us,hv,_⟩:=he.tup_inv;injection hw with hw
       subst hw
       have hy:yielded ops a.tmps j=none:=by
        rcases Hn with D5 | ⟨D5,_⟩
        · simp only [yielded,hd,Aa1,D5,hv]
        · simp only [yielded,hd,Aa1,D5]
       rw [hy];cases want <;> rfl
     · cases hw
   · cases hw
def Ends (C:Cfg) (D:List Deferred) (B:Nat) (T:Nat->Prop) (S:AI) (M:List Nat) (n:Nat) (w:World) (ex:Ex) (st':St) (Q:Exit->Act->World->Prop):Prop:=
 match ex with
 | .normal=>∀ S' M' a' w',Sim C D B T S' M' n st' a' w'->Grows B T S w S' w'->M <+: M'->Q .normal a' w'
 | .exit id=>∀ S' M' a' w',Sim C D B T S' M' n st' a' w'->Grows B T S w S' w'->M <+: M'->Q (.exit id) a' w'
 | .ret=>∀ S' M' a' w',Sim C D B T S' M' n st' a' w'->Grows B T S w S' w'->M <+: M'->Q .ret a' w'
 | .pan p=>∀ S' M' a' w' x v e',(st'.env=[]\/e'=st'.env)->Sim C D B T S' M' n ⟨e',st'.bx⟩ a' w'->Grows B T S w S' w'->M <+: M'->Rep S' M' p v->x=[{ v,recovered:=false }]->Q (.panic x) a' w'
theorem Ends.of_grows {S':AI} {M':List Nat} {w':World} {ex:Ex} {st':St} {Q:Exit->Act->World->Prop} (h:Ends C D B T S M n w ex st' Q) (g:Grows B T S w S' w') (p:M <+: M'):Ends C D B T S' M' n w' ex st' Q:=by
 cases ex with
 | normal=>exact fun S2 M2 a2 w2 hs hg hp=>h S2 M2 a2 w2 hs (g.trans hg) (p.trans hp)
 | exit id=>exact fun S2 M2 a2 w2 hs hg hp=>h S2 M2 a2 w2 hs (g.trans hg) (p.trans hp)
 | ret=>exact fun S2 M2 a2 w2 hs hg hp=>h S2 M2 a2 w2 hs (g.trans hg) (p.trans hp)
 | pan _=>exact fun S2 M2 a2 w2 x v e2 he hs hg hp=>h S2 M2 a2 w2 x v e2 he hs (g.trans hg) (p.trans hp)
theorem CW {call:Cl} (Bn:DX C call) (draw:Bool) (ops:Array Oper) {ex:Ex} {st':St} {Q:Exit->Act->World->Prop}:∀ (l:List Oper) (al:List (Nat×Loc)) (st:St) (S:AI) (M:List Nat) (a:Act) (w:World),
 (∀ o ∈ l,∀ k,o.dst=some k->k < n)->Sim C D B T S M n st a w->GJ M a w al->evOps C call draw ops l al st=some (ex,st')->Ends C D B T S M n w ex st' Q->wpList C.P ops Q l a w
 | [],al,st,S,M,a,w,_,h,_,he,hq=>by
  simp only [evOps,Option.some.injEq,Prod.mk.injEq] at he;obtain ⟨rfl,rfl⟩:=he;exact wpList_nil (hq S M a w h (Grows.refl _ _ _ _) (Aa0 _))
 | o :: rest,al,st,S,M,a,w,hd,h,Gs,he,hq=>by
  unfold evOps at he;split at he
  · cases he
  · rename_i hw
    have mr:=I2 h hw;refine wpList_step fun K hK=>?_;rw [mr];simp only [Bool.false_eq_true,if_false];exact hK _ _ (CW Bn draw ops rest _ _ S M _ w (fun o' Ut=>hd o' (by simp [Ut])) (h.put o.dst (hd o (by simp)) (.und S M) (fun e xs=>by simp [und])) (Gs.put h.size (hd o (by simp)) _ (fun _ _ x=>x) (fun _ _=>rfl)) he hq)
  · rename_i hw
    have mr:=I2 h hw;refine wpList_step fun K hK=>?_;rw [mr];simp only [if_true];split at he
    · cases he
    · rename_i st1 al1 hs
      refine I0 h (hd o (by simp)) Gs Bn draw hs K Q ?_;intro S1 M1 a1 w1 h1 g1 p1 hal1;exact hK _ _ (CW Bn draw ops rest _ _ S1 M1 a1 w1 (fun o' Ut=>hd o' (by simp [Ut])) h1 hal1 he (hq.of_grows g1 p1))
    · rename_i v st1 hs
      injection he with he
      injection he with e1 e2
      subst e1;subst e2;exact I0 h (hd o (by simp)) Gs Bn draw hs K Q (fun S' M' a' w' x u hs' hg hp hr hx=>hq S' M' a' w' x u _ (.inr rfl) hs' hg hp hr hx)
end
end Go.HH
