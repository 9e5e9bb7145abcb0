/-
  What the law needs, packed: Step4.
-/
import Derived.Test.YtmiilonaehgplaaM11
namespace Go.HH
open Go Go.RowKit
section
variable {C:Cfg} {D:List Deferred} {B:Nat} {T:Nat->Prop} {S:Store} {M:List Nat} {n:Nat} {st:St} {a:Act} {w:World}
theorem prefix_get {M M':List Nat} (h:M <+: M') (id b:Nat) (hb:M[id]?=some b):M'[id]?=some b:=by
 obtain ⟨t,rfl⟩:=h
 have hl:id < M.length:=by
  rcases Nat.lt_or_ge id M.length with h | h
  · exact h
  · rw [List.getElem?_eq_none h] at hb;cases hb
 rw [List.getElem?_append_left hl]
 exact hb
theorem boxCells_append_old {bx:List PBox} {x:PBox} {id:Nat} (h:id < bx.length):boxCells (bx++[x]) id=boxCells bx id:=by
 simp [boxCells,List.getElem?_append_left h]
theorem Sim.newBox (h:Sim C D B T S M n st a w) (obj:Obj) (bx:PBox) (hbox:BoxAt S (M++[w.heap.size]) (w.alloc obj) bx w.heap.size)
 (hno:∀ t cs,bx=.cells t cs->∀ p ∈ cs,∀ e xs,p≠.osl e xs):Sim C D B T S (M++[w.heap.size]) n ⟨st.env,st.bx++[bx]⟩ a (w.alloc obj):=by
 have hold:∀ k,k < w.heap.size->(w.alloc obj).heap[k]?=w.heap[k]?:=fun k hk=>heap_alloc_old w obj k hk
 have hpre:∀ (id b:Nat),M[id]?=some b->(M++[w.heap.size])[id]?=some b:=fun id b hb=>prefix_get (List.prefix_append _ _) id b hb
 have hM:∀ b,b ∈ M->(w.alloc obj).heap[b]?=w.heap[b]?:=fun b hb=>hold b (h.mlt hb)
 have loc:∀ l e xs v,LocAt ⟨st.env,st.bx++[bx]⟩ (M++[w.heap.size]) a (w.alloc obj) l (.osl e xs) v->LocAt st M a w l (.osl e xs) v:=by
  intro l e xs v hl
  cases l with
  | tmp t=>exact hl
  | box id off=>
   obtain ⟨cs,b,h1,h2,h3,h4⟩:=hl
   by_cases hid:id < st.bx.length
   · rw [boxCells_append_old hid] at h1
     have hid':id < M.length:=by rw [h.mlen];exact hid
     rw [List.getElem?_append_left hid'] at h3
     refine ⟨cs,b,h1,h2,h3,?_⟩
     rw [World.cell?_of_block (a:=⟨b,off,none⟩) (hM b (List.mem_of_getElem? h3))] at h4
     exact h4
   · exfalso
     unfold boxCells at h1
     split at h1
     · rename_i cs' hg
       injection h1 with h1
       subst h1
       rw [List.getElem?_append_right (by omega)] at hg
       have:id - st.bx.length=0:=by
        rcases Nat.eq_zero_or_pos (id - st.bx.length) with hh | hh
        · exact hh
        · rw [List.getElem?_eq_none (by simp;omega)] at hg;cases hg
       rw [this] at hg
       simp at hg
       exact hno _ _ hg (.osl e xs) (List.mem_of_getElem? h2) e xs rfl
     · cases h1
 refine ⟨fun b o v hv=>?_,h.glob,h.gw.keep (fun b hb _=>hold b (Nat.lt_of_lt_of_le hb h.hB)),h.size,h.dfr,fun t=>(h.env t).mono (Store.le.refl _) hpre,by simp [h.mlen],fun id x hx=>?_,?_,fun b hb o=>?_,fun b hb=>?_,by simp;have:=h.hB;omega,fun l e xs v hl=>?_,fun l l' e e' xs xs' v v' g hl hl'=>?_⟩
 · rw [World.cell?_of_block (a:=⟨b,o,none⟩) (hold b (block_lt (h.holds b o v hv)))]
   exact h.holds b o v hv
 · by_cases hid:id < st.bx.length
   · rw [List.getElem?_append_left hid] at hx
     obtain ⟨b,h1,h2⟩:=h.boxes id x hx
     refine ⟨b,hpre id b h1,?_⟩
     have h3:=h2.kept (Store.le.refl _) (hM b (List.mem_of_getElem? h1))
     cases h3 with
     | cells e cs b c hh l h1 hr=>exact .cells e cs b c hh l h1 (fun i x y=>(hr i x y).mono (Store.le.refl _) hpre)
     | iter s pos b hh=>exact .iter s pos b hh
     | mp es b c k hh l hr=>exact .mp es b c k hh l (fun i x y=>⟨(hr i x y).1.mono (Store.le.refl _) hpre,(hr i x y).2.mono (Store.le.refl _) hpre⟩)
   · rw [List.getElem?_append_right (by omega)] at hx
     have h0:id - st.bx.length=0:=by
      rcases Nat.eq_zero_or_pos (id - st.bx.length) with hh | hh
      · exact hh
      · rw [List.getElem?_eq_none (by simp;omega)] at hx;cases hx
     rw [h0] at hx
     simp at hx
     subst hx
     refine ⟨w.heap.size,?_,hbox⟩
     rw [List.getElem?_append_right (by rw [h.mlen];omega),h.mlen,h0]
     rfl
 · rw [List.nodup_append]
   exact ⟨h.nodup,by simp,fun x hx y hy=>by simp at hy;subst hy;have:=h.mlt hx;omega⟩
 · rcases List.mem_append.1 hb with hb | hb
   · exact h.mS b hb o
   · simp at hb;subst hb;exact store_fresh h.holds _ (Nat.le_refl _) o
 · rcases List.mem_append.1 hb with hb | hb
   · exact h.mT b hb
   · simp at hb;subst hb;exact .inl h.hB
 · obtain ⟨h1,h2⟩:=h.own l e xs v (loc l e xs v hl)
   refine ⟨?_,h2⟩
   obtain ⟨i,vals,hi,hrow,hx,hg⟩:=h1.kept (S':=S) (w':=w.alloc obj) (fun g hg=>⟨hold g (h1.lt hg),fun _=>rfl⟩)
   exact ⟨i,vals,hi,hrow,hx,fun g e=>⟨fun hm=>by
    rcases List.mem_append.1 hm with hm | hm
    · exact (hg g e).1 hm
    · simp at hm;have:=h1.lt e;omega,(hg g e).2⟩⟩
 · exact h.apart l l' e e' xs xs' v v' g (loc _ _ _ _ hl) (loc _ _ _ _ hl')
theorem Sim.addBox (h:Sim C D B T S M n st a w) (g:Nat) (bx:PBox) (hbox:BoxAt S (M++[g]) w bx g) (hgM:g ∉ M) (hgS:∀ o,S g o=none) (hgT:B<=g∨T g) (hgo:∀ l e xs v,LocAt st M a w l (.osl e xs) v->v.ownBlock≠some g)
 (hno:∀ t cs,bx=.cells t cs->∀ p ∈ cs,∀ e xs,p≠.osl e xs):Sim C D B T S (M++[g]) n ⟨st.env,st.bx++[bx]⟩ a w:=by
 have hpre:∀ (id b:Nat),M[id]?=some b->(M++[g])[id]?=some b:=fun id b hb=>prefix_get (List.prefix_append _ _) id b hb
 have loc:∀ l e xs v,LocAt ⟨st.env,st.bx++[bx]⟩ (M++[g]) a w l (.osl e xs) v->LocAt st M a w l (.osl e xs) v:=by
  intro l e xs v hl
  cases l with
  | tmp t=>exact hl
  | box id off=>
   obtain ⟨cs,b,h1,h2,h3,h4⟩:=hl
   by_cases hid:id < st.bx.length
   · rw [boxCells_append_old hid] at h1
     have hid':id < M.length:=by rw [h.mlen];exact hid
     rw [List.getElem?_append_left hid'] at h3
     exact ⟨cs,b,h1,h2,h3,h4⟩
   · exfalso
     unfold boxCells at h1
     split at h1
     · rename_i cs' hg
       injection h1 with h1
       subst h1
       rw [List.getElem?_append_right (by omega)] at hg
       have:id - st.bx.length=0:=by
        rcases Nat.eq_zero_or_pos (id - st.bx.length) with hh | hh
        · exact hh
        · rw [List.getElem?_eq_none (by simp;omega)] at hg;cases hg
       rw [this] at hg
       simp at hg
       exact hno _ _ hg (.osl e xs) (List.mem_of_getElem? h2) e xs rfl
     · cases h1
 refine ⟨h.holds,h.glob,h.gw,h.size,h.dfr,fun t=>(h.env t).mono (Store.le.refl _) hpre,by simp [h.mlen],fun id x hx=>?_,?_,fun b hb o=>?_,fun b hb=>?_,h.hB,fun l e xs v hl=>?_,fun l l' e e' xs xs' v v' k hl hl'=>?_⟩
 · by_cases hid:id < st.bx.length
   · rw [List.getElem?_append_left hid] at hx
     obtain ⟨b,h1,h2⟩:=h.boxes id x hx
     refine ⟨b,hpre id b h1,?_⟩
     cases h2 with
     | cells e cs b c hh l h1 hr=>exact .cells e cs b c hh l h1 (fun i x y=>(hr i x y).mono (Store.le.refl _) hpre)
     | iter s pos b hh=>exact .iter s pos b hh
     | mp es b c k hh l hr=>exact .mp es b c k hh l (fun i x y=>⟨(hr i x y).1.mono (Store.le.refl _) hpre,(hr i x y).2.mono (Store.le.refl _) hpre⟩)
   · rw [List.getElem?_append_right (by omega)] at hx
     have h0:id - st.bx.length=0:=by
      rcases Nat.eq_zero_or_pos (id - st.bx.length) with hh | hh
      · exact hh
      · rw [List.getElem?_eq_none (by simp;omega)] at hx;cases hx
     rw [h0] at hx
     simp at hx
     subst hx
     refine ⟨g,?_,hbox⟩
     rw [List.getElem?_append_right (by rw [h.mlen];omega),h.mlen,h0]
     rfl
 · rw [List.nodup_append]
   exact ⟨h.nodup,by simp,fun x hx y hy=>by simp at hy;subst hy;intro e;subst e;exact hgM hx⟩
 · rcases List.mem_append.1 hb with hb | hb
   · exact h.mS b hb o
   · simp at hb;subst hb;exact hgS o
 · rcases List.mem_append.1 hb with hb | hb
   · exact h.mT b hb
   · simp at hb;subst hb;exact hgT
 · have hl0:=loc l e xs v hl
   obtain ⟨h1,h2⟩:=h.own l e xs v hl0
   refine ⟨?_,h2⟩
   obtain ⟨i,vals,hi,hrow,hx,hg⟩:=h1
   exact ⟨i,vals,hi,hrow,hx,fun k e=>⟨fun hm=>by
    rcases List.mem_append.1 hm with hm | hm
    · exact (hg k e).1 hm
    · simp at hm;subst hm;exact hgo _ _ _ _ hl0 e,(hg k e).2⟩⟩
 · exact h.apart l l' e e' xs xs' v v' k (loc _ _ _ _ hl) (loc _ _ _ _ hl')
theorem grows_alloc (h:Sim C D B T S M n st a w) (obj:Obj):Grows B T S w S (w.alloc obj):=
 ⟨rfl,rfl,rfl,by simp,fun k hk _=>heap_alloc_old w obj k (by have:=h.hB;omega),Store.le.refl _,fun _ _ _ _=>rfl⟩
theorem ro_repC {cs:List PV} {c:Array Value} (h:RepC S M cs c):RepC S M (cs.map PV.ro) c:=
 ⟨by simpa using h.1,h.2.1,fun i h1 h2=>by simpa using (h.2.2 i (by simpa using h1) h2).ro⟩
theorem step_newcells (h:Sim C D B T S M n st a w) {o:Oper} (hd:∀ k,o.dst=some k->k < n) {al:List (Nat×Loc)} (hal:AlOK M a w al) {cs:List PV} {c:Array Value} {e:TypeId} (hc:RepC S M cs c)
 (hno:∀ p ∈ cs,∀ e xs,p≠.osl e xs)
 (hv:(execOp a.eval o).run C.P w=.ok (.value (.pointer (some ⟨w.heap.size,0,none⟩))) (w.alloc (.cells c e))) :
 StepTo C D B T S M n a w o (.next ((St.mk st.env (st.bx++[.cells e cs])).put o.dst (.bp st.bx.length 0)) (killT al o.dst)):=by
 intro K Q hK
 have hpre:∀ (id b:Nat),M[id]?=some b->(M++[w.heap.size])[id]?=some b:=fun id b hb=>prefix_get (List.prefix_append _ _) id b hb
 have hs:=h.newBox (.cells c e) (.cells e cs) (.cells e cs _ c (heap_alloc_new w _) (Nat.le_of_eq hc.1.symm) (fun i x _=>hc.2.1 i x) (fun i x y=>(hc.2.2 i x y).mono (Store.le.refl _) hpre)) (fun t' cs' he=>by injection he with _ he;subst he;exact hno)
 refine upon_of_value hv (hK S (M++[w.heap.size]) _ _ (hs.put o.dst hd (.bp _ _ w.heap.size ?_) (fun e xs=>by simp)) (grows_alloc h _) (List.prefix_append _ _) ?_)
 · rw [List.getElem?_append_right (by rw [h.mlen];omega),h.mlen];simp
 · exact hal.put h.size hd _ hpre (fun b hb=>heap_alloc_old w _ b (h.mlt hb))
theorem step_newrow (h:Sim C D B T S M n st a w) {o:Oper} (hd:∀ k,o.dst=some k->k < n) {al:List (Nat×Loc)} (hal:AlOK M a w al) {cs:List PV} {c:Array Value} {e:TypeId} (hc:RepC S M cs c)
 (hno:∀ p ∈ cs,∀ e xs,p≠.osl e xs) {len cap:Nat} (hcap:len<=cap)
 (hv:(execOp a.eval o).run C.P w=.ok (.value (.slice (some ⟨w.heap.size,0,none⟩) len cap)) (w.alloc (.cells c e))) :
 StepTo C D B T S M n a w o (.next ((St.mk st.env (st.bx++[.cells e cs])).put o.dst (.rs st.bx.length len)) (killT al o.dst)):=by
 intro K Q hK
 have hpre:∀ (id b:Nat),M[id]?=some b->(M++[w.heap.size])[id]?=some b:=fun id b hb=>prefix_get (List.prefix_append _ _) id b hb
 have hs:=h.newBox (.cells c e) (.cells e cs) (.cells e cs _ c (heap_alloc_new w _) (Nat.le_of_eq hc.1.symm) (fun i x _=>hc.2.1 i x) (fun i x y=>(hc.2.2 i x y).mono (Store.le.refl _) hpre)) (fun t' cs' he=>by injection he with _ he;subst he;exact hno)
 refine upon_of_value hv (hK S (M++[w.heap.size]) _ _ (hs.put o.dst hd (.rs _ _ w.heap.size cap ?_ hcap) (fun e xs=>by simp)) (grows_alloc h _) (List.prefix_append _ _) ?_)
 · rw [List.getElem?_append_right (by rw [h.mlen];omega),h.mlen];simp
 · exact hal.put h.size hd _ hpre (fun b hb=>heap_alloc_old w _ b (h.mlt hb))
theorem val_of_one {p:PV} (h:(p.cells.map PV.ro).all PV.one=true):p.val=true:=by
 cases p <;> simp_all [PV.cells,PV.ro,PV.one,PV.val]
theorem map_ro_no (cs:List PV):∀ p ∈ cs.map PV.ro,∀ e xs,p≠.osl e xs:=by
 intro p hp e xs
 obtain ⟨q,_,rfl⟩:=List.mem_map.1 hp
 exact ro_not_osl q e xs
theorem step_box (h:Sim C D B T S M n st a w) {o:Oper} (hd:∀ k,o.dst=some k->k < n) {al:List (Nat×Loc)} (hal:AlOK M a w al) {t:TypeId} {x:Operand} (ho:o.op=.box t x)
 (h1:(((opd C st.env x).cells.map PV.ro).all PV.one)=true) :
 StepTo C D B T S M n a w o (.next ((St.mk st.env (st.bx++[.cells t ((opd C st.env x).cells.map PV.ro)])).put o.dst (.bp st.bx.length 0)) (killT al o.dst)):=by
 have hx:=h.opd x
 refine step_newcells h hd hal (c:=(a.eval x).cells) (e:=t) (ro_repC (hx.cells (val_of_one h1))) (map_ro_no _) ?_
 rw [execOp,ho]
 simp only [Instr.box,newVar,newRow,Sem.run_bind,run_newObj,Sem.run_pure,Result.andThen_ok]
 rfl
theorem step_alloc (h:Sim C D B T S M n st a w) {o:Oper} (hd:∀ k,o.dst=some k->k < n) {al:List (Nat×Loc)} (hal:AlOK M a w al) {t:TypeId} (ho:o.op=.alloc t) {z:PV} (hz:tZero C t=some z)
 (h1:((z.cells.map PV.ro).all PV.one)=true) :
 StepTo C D B T S M n a w o (.next ((St.mk st.env (st.bx++[.cells t (z.cells.map PV.ro)])).put o.dst (.bp st.bx.length 0)) (killT al o.dst)):=by
 obtain ⟨i,v,hi,hzv,rfl⟩:=tZero_some hz
 refine step_newcells h hd hal (c:=v.cells) (e:=t) (ro_repC ((Rep.cval (S:=S) (M:=M) v).cells (val_of_one h1))) (map_ro_no _) ?_
 rw [execOp,ho]
 simp only [Instr.alloc,zeroValue,typeInfo,hi,hzv,newVar,newRow,Sem.run_bind,run_program,run_newObj,Sem.run_pure,Result.andThen_ok]
 rfl
theorem step_range (h:Sim C D B T S M n st a w) {o:Oper} (hd:∀ k,o.dst=some k->k < n) {al:List (Nat×Loc)} (hal:AlOK M a w al) {t:TypeId} {x:Operand} (ho:o.op=.range t x)
 {s:List UInt8} (ht:C.P.underlying t=some .string) (hs:opd C st.env x=.str s) :
 StepTo C D B T S M n a w o (.next ((St.mk st.env (st.bx++[.iter s 0])).put o.dst (.bp st.bx.length 0)) (killT al o.dst)):=by
 intro K Q hK
 have hx:=h.opd x
 rw [hs] at hx
 have hv:(execOp a.eval o).run C.P w=.ok (.value (.pointer (some ⟨w.heap.size,0,none⟩))) (w.alloc (.stringIter ⟨s.toArray⟩ 0)):=by
  rw [execOp,ho]
  simp only [hx.str_inv,Instr.range,Sem.run_bind,run_underlying' ht,run_newObj,Sem.run_pure,Result.andThen_ok]
  rfl
 have hpre:∀ (id b:Nat),M[id]?=some b->(M++[w.heap.size])[id]?=some b:=fun id b hb=>prefix_get (List.prefix_append _ _) id b hb
 have hs:=h.newBox (.stringIter ⟨s.toArray⟩ 0) (.iter s 0) (.iter s 0 _ (heap_alloc_new w _)) (fun t' cs' he=>by cases he)
 refine upon_of_value hv (hK S (M++[w.heap.size]) _ _ (hs.put o.dst hd (.bp _ _ w.heap.size ?_) (fun e xs=>by simp)) (grows_alloc h _) (List.prefix_append _ _) ?_)
 · rw [List.getElem?_append_right (by rw [h.mlen];omega),h.mlen];simp
 · exact hal.put h.size hd _ hpre (fun b hb=>heap_alloc_old w _ b (h.mlt hb))
end
end Go.HH
