/-
  What the law needs, packed: Step9.
-/
import Derived.Test.YtmiilonaehgplaaM17
namespace Go.HH
open Go Go.RowKit
section
variable {C:Cfg} {D:List Deferred} {B:Nat} {T:Nat->Prop} {S:Store} {M:List Nat} {n:Nat} {st:St} {a:Act} {w:World}
theorem lay_get {cells ps:List PV} {off:Nat} (h:off+ps.length<=cells.length) (i:Nat) :
 (lay cells off ps)[i]?=if off<=i∧i < off+ps.length then ps[i - off]? else cells[i]?:=by
 unfold lay
 by_cases c1:i < off
 · rw [if_neg (by omega),List.append_assoc,List.getElem?_append_left (by simp;omega),List.getElem?_take_of_lt c1]
 · by_cases c2:i < off+ps.length
   · rw [if_pos ⟨by omega,c2⟩,List.append_assoc,List.getElem?_append_right (by simp;omega),List.getElem?_append_left (by simp;omega)]
     congr 1
     simp;omega
   · rw [if_neg (by omega),List.getElem?_append_right (by simp;omega),List.getElem?_drop]
     congr 1
     simp;omega
theorem Sim.setBoxObj (h:Sim C D B T S M n st a w) {id:Nat} {b:Nat} (hm:M[id]?=some b) (hid:id < st.bx.length) {x:PBox} {w':World} (hbox:BoxAt S M w' x b)
 (os:w'.os=w.os) (tape:w'.tape=w.tape) (output:w'.output=w.output) (size:w.heap.size=w'.heap.size) (block:∀ k,k≠b->w'.heap[k]?=w.heap[k]?)
 (hown:∀ t cs off e xs v,x=.cells t cs->cs[off]?=some (.osl e xs)->w'.cell? ⟨b,off,none⟩=some v ->
  (LocAt st M a w (.box id off) (.osl e xs) v) ∨
  (OwnAt C.P S M w e xs v∧(∀ g,v.ownBlock=some g->B<=g∨T g)∧(∀ l e' xs' u g,l≠.box id off->LocAt st M a w l (.osl e' xs') u->u.ownBlock=some g->v.ownBlock≠some g) ∧
   ∀ off' e' xs' u g,off'≠off->cs[off']?=some (.osl e' xs')->w'.cell? ⟨b,off',none⟩=some u->u.ownBlock=some g->v.ownBlock≠some g)) :
 Sim C D B T S M n ⟨st.env,st.bx.set id x⟩ a w'∧Grows B T S w S w':=by
 have hbM:b ∈ M:=List.mem_of_getElem? hm
 have hne:∀ id' b',id'≠id->M[id']?=some b'->b'≠b:=by
  intro id' b' hi hb' e
  subst e
  have h1:id' < M.length:=by
   rcases Nat.lt_or_ge id' M.length with h | h
   · exact h
   · rw [List.getElem?_eq_none h] at hb';cases hb'
  have h2:id < M.length:=by
   rcases Nat.lt_or_ge id M.length with h | h
   · exact h
   · rw [List.getElem?_eq_none h] at hm;cases hm
  rw [List.getElem?_eq_getElem h1] at hb'
  rw [List.getElem?_eq_getElem h2] at hm
  injection hb' with hb'
  injection hm with hm
  exact hi ((List.getElem_inj h.nodup).1 (hb'.trans hm.symm))
 -- a place that owns,now
 have loc:∀ l e xs v,LocAt ⟨st.env,st.bx.set id x⟩ M a w' l (.osl e xs) v ->
  (LocAt st M a w l (.osl e xs) v)∨(∃ off t cs,l=.box id off∧x=.cells t cs∧cs[off]?=some (.osl e xs)∧w'.cell? ⟨b,off,none⟩=some v):=by
  intro l e xs v hl
  cases l with
  | tmp t=>exact .inl hl
  | box id' off=>
   obtain ⟨cs,b',h1,h2,h3,h4⟩:=hl
   by_cases hi:id'=id
   · subst hi
     rw [hm] at h3
     injection h3 with h3
     subst h3
     unfold boxCells at h1
     simp only at h1
     rw [List.getElem?_set_self hid] at h1
     split at h1
     · rename_i c heq
       injection h1 with h1
       injection heq with heq
       subst h1
       exact .inr ⟨off,_,c,rfl,heq,h2,h4⟩
     · cases h1
   · refine .inl ⟨cs,b',?_,h2,h3,?_⟩
     · unfold boxCells at h1 ⊢
       simp only at h1
       rw [List.getElem?_set_ne (Ne.symm hi)] at h1
       exact h1
     · rw [<- h4]
       exact (World.cell?_of_block (a:=⟨b',off,none⟩) (block b' (hne id' b' hi h3))).symm
 have ownEq:∀ l e xs v,LocAt ⟨st.env,st.bx.set id x⟩ M a w' l (.osl e xs) v->OwnAt C.P S M w e xs v∧∀ g,v.ownBlock=some g->B<=g∨T g:=by
  intro l e xs v hl
  rcases loc l e xs v hl with hl | ⟨off,t,cs,rfl,hx,h1,h2⟩
  · exact h.own l e xs v hl
  · rcases hown t cs off e xs v hx h1 h2 with hl | ⟨h3,h4,_⟩
    · exact h.own _ e xs v hl
    · exact ⟨h3,h4⟩
 refine ⟨⟨fun b' o v hv=>?_,h.glob,h.gw.keep (fun k hk hnT=>block k (fun e=>by subst e;rcases h.mT k hbM with h | h;omega;exact hnT h)),h.size,h.dfr,h.env,by simpa using h.mlen,fun id' y hy=>?_,h.nodup,h.mS,h.mT,by rw [<- size];exact h.hB,fun l e xs v hl=>?_,fun l l' e e' xs xs' v v' g hl hl' hv hv'=>?_⟩,os,tape,output,by omega,fun k hk hnT=>?_,Store.le.refl _,fun _ _ _ _=>rfl⟩
 · have hb:b'≠b:=by rintro rfl;rw [h.mS b' hbM] at hv;cases hv
   rw [World.cell?_of_block (a:=⟨b',o,none⟩) (block b' hb)]
   exact h.holds b' o v hv
 · by_cases hi:id'=id
   · subst hi
     simp only at hy
     rw [List.getElem?_set_self hid] at hy
     injection hy with hy
     subst hy
     exact ⟨b,hm,hbox⟩
   · simp only at hy
     rw [List.getElem?_set_ne (Ne.symm hi)] at hy
     obtain ⟨b',h1,h2⟩:=h.boxes id' y hy
     exact ⟨b',h1,h2.kept (Store.le.refl _) (block b' (hne id' b' hi h1))⟩
 · obtain ⟨h1,h2⟩:=ownEq l e xs v hl
   refine ⟨h1.kept fun g hg=>⟨block g ?_,fun _=>rfl⟩,h2⟩
   obtain ⟨i,vals,_,_,_,h3⟩:=h1
   rintro rfl
   exact (h3 g hg).1 hbM
 · rcases loc l e xs v hl with hl1 | ⟨off,t,cs,rfl,hx,h1,h2⟩
   · rcases loc l' e' xs' v' hl' with hl2 | ⟨off',t',cs',rfl,hx',h1',h2'⟩
     · exact h.apart l l' e e' xs xs' v v' g hl1 hl2 hv hv'
     · rcases hown t' cs' off' e' xs' v' hx' h1' h2' with hl2 | ⟨_,_,h5,_⟩
       · exact h.apart l _ e e' xs xs' v v' g hl1 hl2 hv hv'
       · by_cases hll:l=.box id off'
         · exact hll
         · exact absurd hv' (h5 l e xs v g hll hl1 hv)
   · rcases loc l' e' xs' v' hl' with hl2 | ⟨off',t',cs',rfl,hx',h1',h2'⟩
     · rcases hown t cs off e xs v hx h1 h2 with hl1 | ⟨_,_,h5,_⟩
       · exact h.apart _ l' e e' xs xs' v v' g hl1 hl2 hv hv'
       · by_cases hll:l'=.box id off
         · exact hll.symm
         · exact absurd hv (h5 l' e' xs' v' g hll hl2 hv')
     · rw [hx] at hx'
       injection hx' with _ hx'
       subst hx'
       by_cases ho:off'=off
       · rw [ho]
       · exfalso
         rcases hown t cs off e xs v hx h1 h2 with hl1 | ⟨_,_,_,h6⟩
         · rcases hown _ cs off' e' xs' v' hx h1' h2' with hl2 | ⟨_,_,_,h6⟩
           · have:=h.apart _ _ e e' xs xs' v v' g hl1 hl2 hv hv'
             injection this with _ this
             exact ho this.symm
           · exact h6 off e xs v g (Ne.symm ho) h1 h2 hv hv'
         · exact h6 off' e' xs' v' g ho h1' h2' hv' hv
 · have:=h.hB
   refine block k ?_
   rintro rfl
   rcases h.mT k hbM with h1 | h1
   · omega
   · exact hnT h1
theorem Sim.layBox (h:Sim C D B T S M n st a w) {id off:Nat} {te:TypeId} {cs:List PV} (hcs:st.bx[id]?=some (.cells te cs)) {b:Nat} (hm:M[id]?=some b) {ps:List PV} {vals:Array Value} (hlr:RepC S M ps vals)
 (hno:∀ p ∈ ps,∀ e xs,p≠.osl e xs) (hle:off+ps.length<=cs.length) :
 ∃ w',(storeCells ⟨b,off,none⟩ vals.toList 0).run C.P w=.ok () w'∧Sim C D B T S M n ⟨st.env,st.bx.set id (.cells te (lay cs off ps))⟩ a w'∧Grows B T S w S w':=by
 have hcs':boxCells st.bx id=some cs:=by unfold boxCells;rw [hcs]
 have hid:=boxCells_lt hcs'
 obtain ⟨b',c,hm',hh,hcl,hc1,hcr⟩:=BoxAt.getT h hcs
 rw [hm] at hm'
 injection hm' with hm'
 subst hm'
 have hvl:vals.toList.length=ps.length:=by have:=hlr.1;simpa using this
 have hfit:off+vals.toList.length<=c.size:=by omega
 have hrun:=run_storeCells_at C.P b off te vals.toList 0 c w hh (by simpa using hfit) (fun u hu=>by
  obtain ⟨j,hj,rfl⟩:=List.getElem_of_mem hu
  have:=hlr.2.1 j (by simpa using hj)
  simpa using this)
 simp only [Nat.add_zero] at hrun
 generalize hnew:(c.toList.take off++vals.toList++c.toList.drop (off+vals.toList.length)).toArray=cn at hrun
 have hcell:∀ j,(w.setRow b cn).cell? ⟨b,j,none⟩=cn[j]?:=fun j=>cell_of_heap (setRow_heap w b c cn te (0,0) hh) j
 have hcnget:∀ j,cn[j]?=if off<=j∧j < off+ps.length then vals[j - off]? else c[j]?:=by
  intro j
  rw [<- hnew]
  simp only [List.getElem?_toArray]
  by_cases k1:j < off
  · rw [if_neg (by omega),List.append_assoc,List.getElem?_append_left (by simp;omega),List.getElem?_take_of_lt k1];simp
  · by_cases k2:j < off+ps.length
    · rw [if_pos ⟨by omega,k2⟩,List.append_assoc,List.getElem?_append_right (by simp;omega),List.getElem?_append_left (by simp at hvl ⊢;omega)]
      have:(c.toList.take off).length=off:=by simp;omega
      rw [this];simp
    · rw [if_neg (by omega),List.getElem?_append_right (by simp at hvl ⊢;omega),List.getElem?_drop]
      have:(c.toList.take off++vals.toList).length=off+ps.length:=by simp at hvl ⊢;omega
      rw [this,hvl,show off+ps.length+(j - (off+ps.length))=j by omega];simp
 have hcn:cn.size=c.size:=by
  rw [<- hnew]
  simp at hvl ⊢;omega
 have hbox:BoxAt S M (w.setRow b cn) (.cells te (lay cs off ps)) b:=by
  have hll:(lay cs off ps).length=cs.length:=by simp [lay];omega
  refine .cells te _ b cn (setRow_heap w b c cn te (0,0) hh) (by omega) (fun j hj hj2=>?_) (fun j hj hj'=>?_)
  · have:=hcnget j
    rw [Array.getElem?_eq_getElem hj] at this
    split at this
    · rename_i hin
      rw [Array.getElem?_eq_getElem (by have:=hlr.1;omega)] at this
      injection this with this
      rw [this];exact hlr.2.1 _ _
    · rw [Array.getElem?_eq_getElem (by omega)] at this
      injection this with this
      rw [this];exact hc1 _ _ (by omega)
  · have e1:=hcnget j
    have e2:=lay_get hle j
    rw [Array.getElem?_eq_getElem hj'] at e1
    rw [List.getElem?_eq_getElem hj] at e2
    split at e1
    · rename_i hin
      rw [if_pos hin] at e2
      rw [Array.getElem?_eq_getElem (by have:=hlr.1;omega)] at e1
      rw [List.getElem?_eq_getElem (by omega)] at e2
      injection e1 with e1
      injection e2 with e2
      rw [e1,e2];exact hlr.2.2 _ _ _
    · rename_i hin
      rw [if_neg hin] at e2
      rw [Array.getElem?_eq_getElem (by omega)] at e1
      rw [List.getElem?_eq_getElem (by omega)] at e2
      injection e1 with e1
      injection e2 with e2
      rw [e1,e2];exact hcr _ _ _
 obtain ⟨hs,hg⟩:=h.setBoxObj (x:=.cells te (lay cs off ps)) hm hid hbox rfl rfl rfl (by simp [World.setRow]) (fun k hk=>setRow_other w b k cn hk) (fun t' cs' off' e xs u hx hc hu=>by
  injection hx with _ hx
  subst hx
  rw [lay_get hle] at hc
  rw [hcell,hcnget] at hu
  split at hc
  · rename_i hin
    exact absurd rfl (hno _ (List.mem_of_getElem? hc) e xs)
  · rename_i hin
    rw [if_neg hin] at hu
    refine .inl ⟨cs,b,hcs',hc,hm,?_⟩
    rw [cell_of_heap hh];exact hu)
 exact ⟨_,hrun,hs,hg⟩
theorem srcP_rep (h:Sim C D B T S M n st a w) {s:Nat} {x:PV} {vx:Value} (hx:Rep S M x vx) {m:Nat} {cs:List PV} (hs:srcP s st.bx x=some (m,cs)) :
 ∃ vals:List Value,RepC S M cs vals.toArray∧cs.length=m * s∧(Builtin.lenOf vx).run C.P w=.ok m w∧∀ k,k<=m->(Builtin.firstCells s k vx).run C.P w=.ok (vals.take (k * s)).toArray w:=by
 unfold srcP at hs
 split at hs
 · rename_i id len
   obtain ⟨b,cap,hm,hcap,rfl⟩:=hx.rs_inv
   split at hs
   · rename_i cs' hb
     split at hs
     · rename_i hle
       injection hs with hs
       injection hs with e1 e2
       subst e1
       subst e2
       obtain ⟨b',c,e,hm',hh,hcl,hc1,hcr⟩:=BoxAt.get h hb
       rw [hm] at hm'
       injection hm' with hm'
       subst hm'
       refine ⟨c.toList.take (len * s),⟨by simp;omega,fun i hi=>?_,fun i hi hi'=>?_⟩,by simp;omega,rfl,fun k hk=>?_⟩
       · simp at hi ⊢;exact hc1 i (by omega) (by omega)
       · simp at hi hi' ⊢;exact hcr i (by omega) (by omega)
       · have hks:k * s<=len * s:=Nat.mul_le_mul_right s hk
         refine run_firstCells_some w s k ⟨b,0,none⟩ len cap _ (by simp;omega) (fun j v hj=>?_)
         rw [add_none,Nat.zero_add,cell_of_heap hh]
         have hlt:j < k * s:=by
          rcases Nat.lt_or_ge j (k * s) with h1 | h1
          · exact h1
          · rw [List.getElem?_eq_none (by simp;omega)] at hj;cases hj
         rw [List.getElem?_take_of_lt hlt,List.getElem?_take_of_lt (by omega)] at hj
         simpa using hj
     · cases hs
   · cases hs
 · split at hs
   · rename_i xs hel
     split at hs
     · rename_i hall
       injection hs with hs
       injection hs with e1 e2
       subst e1
       subst e2
       have hsz:∀ x ∈ xs,x.cells.length=s:=by
        intro y hy
        rw [List.all_eq_true] at hall
        simpa using hall y hy
       have hfl:=flat_length hsz
       obtain ⟨ad,cap,rfl,hcap,hc⟩:=hx.elems_inv hel
       rcases hc with rfl | ⟨b,o,rfl,_,f,h1,h2,h3⟩
       · refine ⟨[],⟨rfl,fun i hi=>by simp at hi,fun i hi=>by simp [flat] at hi⟩,by simp [flat],rfl,fun k hk=>?_⟩
         have:k=0:=by simpa using hk
         subst this
         rw [Nat.zero_mul,List.take_zero]
         cases ad with
         | none=>exact run_firstCells_none w s 0 _ _
         | some ad=>exact run_firstCells_some w s 0 ad _ cap [] (by simp) (fun j v hj=>by simp at hj)
       · refine ⟨(List.range (flat xs).length).map f,⟨by simp,fun i hi=>?_,fun i hi hi'=>?_⟩,hfl,rfl,fun k hk=>?_⟩
         · simp at hi ⊢;exact h2 i hi
         · simp;exact h3 i hi
         · have hks:k * s<=xs.length * s:=Nat.mul_le_mul_right s hk
           refine run_firstCells_some w s k ⟨b,o,none⟩ _ cap _ (by simp;omega) (fun j v hj=>?_)
           have hlt:j < k * s:=by
            rcases Nat.lt_or_ge j (k * s) with h1 | h1
            · exact h1
            · rw [List.getElem?_eq_none (by simp;omega)] at hj;cases hj
           rw [List.getElem?_take_of_lt hlt,List.getElem?_map,List.getElem?_range (by omega)] at hj
           injection hj with hj
           subst hj
           rw [add_none]
           exact h.holds _ _ _ (h1 j (by omega))
     · cases hs
   · cases hs
theorem step_copy (h:Sim C D B T S M n st a w) {o:Oper} (hd:∀ k,o.dst=some k->k < n) {al:List (Nat×Loc)} {args:Array Operand} {argTypes:Array TypeId}
 (ho:o.op=.call { callee:=.builtin .copy,args,argTypes }) {r:OpR} (hr:copyP C st al args argTypes o.dst=some r):StepTo C D B T S M n a w o r:=by
 unfold copyP at hr
 split at hr
 · rename_i x y t t1 hargs htys
   unfold copyOn at hr
   split at hr
   · rename_i e ht
     split at hr
     · rename_i s id len hs hx
       split at hr
       · rename_i m cs hsrc
         split at hr
         · split at hr
           · rename_i bx hst
             injection hr with hr
             subst hr
             obtain ⟨vals,hrc,hcl,hlen,hfirst⟩:=srcP_rep h (h.opd y) hsrc
             have hx':=h.opd x
             rw [hx] at hx'
             obtain ⟨b,cap,hm,hcap,hvx⟩:=hx'.rs_inv
             obtain ⟨i,hi,rfl⟩:=tSize_some hs
             unfold storeCellsP at hst
             split at hst
             · rename_i te cs0 hcs0
               split at hst
               · rename_i hcond
                 injection hst with hst
                 subst hst
                 obtain ⟨hle,hone⟩:=hcond
                 have hks:min m len * i.size<=m * i.size:=Nat.mul_le_mul_right _ (Nat.min_le_left _ _)
                 have hvl:vals.length=cs.length:=by have:=hrc.1;simpa using this
                 have hlr:RepC S M ((cs.take (min m len * i.size)).map PV.ro) (vals.take (min m len * i.size)).toArray:=by
                  refine ro_repC ⟨by simp;omega,fun j hj=>?_,fun j hj hj'=>?_⟩
                  · simp at hj ⊢
                    have:=hrc.2.1 j (by simp;omega)
                    simpa using this
                  · simp at hj hj' ⊢
                    have:=hrc.2.2 j (by omega) (by simp;omega)
                    simpa using this
                 obtain ⟨w',hrun,hs',hg⟩:=h.layBox hcs0 hm hlr (map_ro_no _) hle
                 intro K Q hK
                 have e1:args=#[x,y]:=by have:=congrArg List.toArray hargs;simpa using this
                 have e2:argTypes=#[t,t1]:=by have:=congrArg List.toArray htys;simpa using this
                 have hmin:Nat.min m len=min m len:=rfl
                 have hv:(execOp a.eval o).run C.P w=.ok (.value (goInt (min m len:Nat))) w':=by
                  rw [execOp,ho]
                  simp only [e1,e2,resolve,invoke,builtin,Sem.run_bind,Sem.run_pure,Result.andThen_ok,List.map_toArray,List.map_cons,List.map_nil]
                  simp only [Builtin.copy_,List.getElem?_toArray,List.getElem?_cons_zero,List.getElem?_cons_succ,Sem.run_bind,Sem.run_pure,Result.andThen_ok,run_underlying' ht,hvx,hlen,run_sizeOf' hi,hmin,hfirst _ (Nat.min_le_left m len)]
                  rw [show (storeCells ⟨b,0,none⟩ (vals.take (min m len * i.size)).toArray.toList:Sem Unit)=storeCells ⟨b,0,none⟩ (vals.take (min m len * i.size)).toArray.toList 0 from rfl]
                  rw [hrun]
                  rfl
                 refine upon_of_value hv (hK S M _ w' (hs'.put o.dst hd (.int _ _) (fun e xs=>by simp)) hg (List.prefix_refl _) (fun p hp=>by simp at hp))
               · cases hst
             · cases hst
           · cases hr
         · cases hr
       · cases hr
     · cases hr
   · cases hr
 · cases hr
theorem laid_rep {p:PV} {v:Value} (h:Rep S M p v) (hall:(laid p).all PV.one=true):RepC S M (laid p) v.cells:=by
 unfold laid at hall ⊢
 split
 · rename_i e xs
   exact h.cells (p:=.osl e xs) rfl
 · rename_i hno
   split at hall
   · rename_i e xs;exact absurd rfl (hno e xs)
   · exact ro_repC (h.cells (val_of_one hall))
theorem laid_osl {p:PV} {j:Nat} {e:TypeId} {xs:List PV} (h:(laid p)[j]?=some (.osl e xs)):p=.osl e xs∧j=0:=by
 unfold laid at h
 split at h
 · cases j with
   | zero=>simp at h;obtain ⟨rfl,rfl⟩:=h;exact ⟨rfl,rfl⟩
   | succ j=>simp at h
 · exact absurd rfl (map_ro_no _ _ (List.mem_of_getElem? h) e xs)
theorem step_store (h:Sim C D B T S M n st a w) {o:Oper} (hd:∀ k,o.dst=some k->k < n) {al:List (Nat×Loc)} (hal:AlOK M a w al) {call:CallT} (draw:Bool) {t:TypeId} {ad x:Operand} (ho:o.op=.store t ad x) {r:OpR}
 (hr:stepOp C call draw al o st=some r):StepTo C D B T S M n a w o r:=by
 intro K Q hK
 unfold stepOp at hr
 rw [ho] at hr
 simp only at hr
 split at hr
 · rename_i id off had
   cases hT:takeT C st x t with
   | mk v st1=>
    simp only [hT] at hr
    obtain ⟨h1,hbx,hrep,hosl⟩:=takeT_sim h x t hT
    split at hr
    · rename_i hsz
      split at hr
      · rename_i bx hst
        injection hr with hr
        subst hr
        unfold storeCellsP at hst
        split at hst
        · rename_i te cs hcs
          split at hst
          · rename_i hcond
            injection hst with hst
            subst hst
            obtain ⟨hle,hone⟩:=hcond
            have hadr:=h.opd ad
            rw [had] at hadr
            obtain ⟨b,hm,hav⟩:=hadr.bp_inv
            have hcs':boxCells st1.bx id=some cs:=by unfold boxCells;rw [hcs]
            have hid:=boxCells_lt hcs'
            obtain ⟨b',c,hm',hh,hcl,hc1,hcr⟩:=BoxAt.getT h1 hcs
            rw [hm] at hm'
            injection hm' with hm'
            subst hm'
            have hlr:=laid_rep hrep hone
            obtain ⟨i,hi,his⟩:=tSize_some hsz
            have hfit:off+(a.eval x).cells.toList.length<=c.size:=by have:=hlr.1;simp;omega
            have hrun:=run_storeCells_at C.P b off te (a.eval x).cells.toList 0 c w hh (by simpa using hfit) (fun u hu=>by
             obtain ⟨j,hj,rfl⟩:=List.getElem_of_mem hu
             have:=hlr.2.1 j (by simpa using hj)
             simpa using this)
            simp only [Nat.add_zero] at hrun
            generalize hnew:(c.toList.take off++(a.eval x).cells.toList++c.toList.drop (off+(a.eval x).cells.toList.length)).toArray=cn at hrun
            have hcell:∀ j,(w.setRow b cn).cell? ⟨b,j,none⟩=cn[j]?:=fun j=>cell_of_heap (setRow_heap w b c cn te (0,0) hh) j
            have hcnget:∀ j,cn[j]?=if off<=j∧j < off+(laid v).length then (a.eval x).cells[j - off]? else c[j]?:=by
             intro j
             rw [<- hnew]
             simp only [List.getElem?_toArray]
             have hl2:(a.eval x).cells.toList.length=(laid v).length:=by have:=hlr.1;simpa using this
             by_cases k1:j < off
             · rw [if_neg (by omega),List.append_assoc,List.getElem?_append_left (by simp;omega),List.getElem?_take_of_lt k1];simp
             · by_cases k2:j < off+(laid v).length
               · rw [if_pos ⟨by omega,k2⟩,List.append_assoc,List.getElem?_append_right (by simp;omega),List.getElem?_append_left (by simp at hl2 ⊢;omega)]
                 have:(c.toList.take off).length=off:=by simp;omega
                 rw [this];simp
               · rw [if_neg (by omega),List.getElem?_append_right (by simp at hl2 ⊢;omega),List.getElem?_drop]
                 have:(c.toList.take off++(a.eval x).cells.toList).length=off+(laid v).length:=by simp at hl2 ⊢;omega
                 rw [this,hl2,show off+(laid v).length+(j - (off+(laid v).length))=j by omega];simp
            have hcn:cn.size=c.size:=by
             rw [<- hnew]
             have:(a.eval x).cells.toList.length=(laid v).length:=by have:=hlr.1;simpa using this
             simp at this ⊢;omega
            have hbox:BoxAt S M (w.setRow b cn) (.cells te (lay cs off (laid v))) b:=by
             have hll:(lay cs off (laid v)).length=cs.length:=by simp [lay];omega
             refine .cells te _ b cn (setRow_heap w b c cn te (0,0) hh) (by omega) (fun j hj hj2=>?_) (fun j hj hj'=>?_)
             · have:=hcnget j
               rw [Array.getElem?_eq_getElem hj] at this
               split at this
               · rename_i hin
                 rw [Array.getElem?_eq_getElem (by have:=hlr.1;omega)] at this
                 injection this with this
                 rw [this];exact hlr.2.1 _ _
               · rw [Array.getElem?_eq_getElem (by omega)] at this
                 injection this with this
                 rw [this];exact hc1 _ _ (by omega)
             · have e1:=hcnget j
               have e2:=lay_get hle j
               rw [Array.getElem?_eq_getElem hj'] at e1
               rw [List.getElem?_eq_getElem hj] at e2
               split at e1
               · rename_i hin
                 rw [if_pos hin] at e2
                 rw [Array.getElem?_eq_getElem (by have:=hlr.1;omega)] at e1
                 rw [List.getElem?_eq_getElem (by omega)] at e2
                 injection e1 with e1
                 injection e2 with e2
                 rw [e1,e2];exact hlr.2.2 _ _ _
               · rename_i hin
                 rw [if_neg hin] at e2
                 rw [Array.getElem?_eq_getElem (by omega)] at e1
                 rw [List.getElem?_eq_getElem (by omega)] at e2
                 injection e1 with e1
                 injection e2 with e2
                 rw [e1,e2];exact hcr _ _ _
            obtain ⟨hs,hg⟩:=h1.setBoxObj (x:=.cells te (lay cs off (laid v))) hm hid hbox rfl rfl rfl (by simp [World.setRow]) (fun k hk=>setRow_other w b k cn hk) (fun t' cs' off' e xs u hx hc hu=>by
             injection hx with _ hx
             subst hx
             rw [lay_get hle] at hc
             rw [hcell,hcnget] at hu
             split at hc
             · rename_i hin
               rw [if_pos hin] at hu
               obtain ⟨rfl,hj0⟩:=laid_osl hc
               obtain ⟨o1,o2,o3⟩:=hosl e xs rfl
               have huv:u=a.eval x:=by
                rw [hj0] at hu
                have hcells:(a.eval x).cells=#[a.eval x]:=(hrep.oneCell (p:=.osl e xs) rfl).2
                rw [hcells] at hu
                simpa using hu.symm
               subst huv
               refine .inr ⟨o1,o2,fun l e' xs' u' g _ hl hu'=>o3 l e' xs' u' g hl hu',fun off2 e' xs' u' g hne hc2 hu2 hug=>?_⟩
               -- another cell of the box that owns
               rw [lay_get hle] at hc2
               rw [hcell,hcnget] at hu2
               have hl1:(laid (PV.osl e xs)).length=1:=rfl
               rw [hl1] at hc2 hu2 hin
               rw [if_neg (by omega)] at hc2 hu2
               refine o3 (.box id off2) e' xs' u' g ⟨cs,b,hcs',hc2,hm,?_⟩ hug
               rw [cell_of_heap hh];exact hu2
             · rename_i hin
               rw [if_neg hin] at hu
               refine .inl ⟨cs,b,hcs',hc,hm,?_⟩
               rw [cell_of_heap hh];exact hu)
            have hv:(execOp a.eval o).run C.P w=.ok .skip (w.setRow b cn):=by
             rw [execOp,ho]
             have hszv:¬ ((a.eval x).cells.size≠i.size):=by have:=hlr.1;omega
             simp only [hav,Instr.storeAt,Instr.sureAddr,storeVar,Sem.run_bind,Sem.run_pure,Result.andThen_ok,run_sizeOf' hi,if_neg hszv]
             rw [show (storeCells ⟨b,off,none⟩ (a.eval x).cells.toList:Sem Unit)=storeCells ⟨b,off,none⟩ (a.eval x).cells.toList 0 from rfl]
             rw [hrun]
             rfl
            unfold Oper.wp
            rw [hv]
            refine hK S M _ _ (hs.put o.dst hd (.und S M) (fun e xs=>by simp [und])) hg (List.prefix_refl _) ?_
            intro p hpm
            obtain ⟨m1,m2⟩:=killT_mem hpm
            simp only [List.mem_filter] at m1
            obtain ⟨m3,m4⟩:=m1
            have hc:=hal p m3
            obtain ⟨d',l⟩:=p
            cases l with
            | tmp t=>
             simp only [ConcEq] at hc ⊢
             rw [put_get h.size hd _ (fun k hk=>(m2 k hk).1),put_get h.size hd _ (fun k hk=>by simpa using (m2 k hk).2)]
             exact hc
            | box id' off'=>
             obtain ⟨b2,e1,e2⟩:=hc
             have hne:id'≠id:=by simpa using m4
             refine ⟨b2,e1,?_⟩
             rw [put_get h.size hd _ (fun k hk=>(m2 k hk).1)]
             have hbb:b2≠b:=by
              rintro rfl
              have q1:id' < M.length:=by
               rcases Nat.lt_or_ge id' M.length with h | h
               · exact h
               · rw [List.getElem?_eq_none h] at e1;cases e1
              have q2:id < M.length:=by
               rcases Nat.lt_or_ge id M.length with h | h
               · exact h
               · rw [List.getElem?_eq_none h] at hm;cases hm
              rw [List.getElem?_eq_getElem q1] at e1
              rw [List.getElem?_eq_getElem q2] at hm
              injection e1 with e1
              injection hm with hm
              exact hne ((List.getElem_inj h.nodup).1 (e1.trans hm.symm))
             rw [World.cell?_of_block (a:=⟨b2,off',none⟩) (setRow_other w b b2 cn hbb)]
             exact e2
          · cases hst
        · cases hst
      · cases hr
    · cases hr
 · cases hr
end
end Go.HH
