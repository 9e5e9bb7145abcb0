/-
  What the law needs, packed: Pure3.
-/
import Derived.Laws.Tables
import Derived.Test.YtmiilonaehgplaaM7
namespace Go.HH
open Go Go.RowKit
section
variable {C:Cfg} {D:List Deferred} {B:Nat} {T:Nat->Prop} {S:Store} {M:List Nat} {n:Nat} {st:St} {a:Act} {w:World}
theorem indexAddrP_run {t:TypeId} {x i:PV} {vx vi:Value} {p:PV} (h:indexAddrP C t x i=some p) (hx:Rep S M x vx) (hi:Rep S M i vi) :
 ∃ v,(Instr.indexAt t vx vi).run C.P w=.ok v w∧Rep S M p v:=by
 unfold indexAddrP at h
 split at h
 · rename_i k m
   rw [hi.int_inv]
   split at h
   · cases h
   · rename_i hm
     split at h
     · rename_i el ht
       split at h
       · rename_i xs s hel hs
         obtain ⟨inf,hinf,rfl⟩:=tSize_some hs
         obtain ⟨ad,cap,rfl,hcap,hcells⟩:=hx.elems_inv hel
         split at h
         · rename_i v hg
           split at h
           · rename_i hvs
             injection h with h;subst h
             have hlt:m.toNat < xs.length:=by
              rcases Nat.lt_or_ge m.toNat xs.length with hh | hh
              · exact hh
              · rw [List.getElem?_eq_none hh] at hg;cases hg
             rcases hcells with rfl | ⟨b,o,rfl,⟨sz,hsz⟩,f,g1,g2,g3⟩
             · simp at hlt
             · have hmem:v ∈ xs:=List.mem_of_getElem? hg
               have e0:sz=inf.size:=by rw [<- hsz v hmem];exact hvs
               subst e0
               have e1:=flat_take_drop xs m.toNat inf.size hsz (by omega)
               have e2:flat (xs.drop m.toNat)=v.cells++flat (xs.drop (m.toNat+1)):=by
                rw [List.drop_eq_getElem_cons hlt]
                rw [List.getElem?_eq_getElem hlt] at hg
                injection hg with hg
                simp only [flat,List.flatMap_cons,hg]
               have hll:∀ j,j < v.cells.length->m.toNat * inf.size+j < (flat xs).length:=by
                intro j hj
                have:(flat xs).length - m.toNat * inf.size=(v.cells++flat (xs.drop (m.toNat+1))).length:=by rw [<- e2,<- e1];simp
                simp at this;omega
               refine ⟨.pointer (some ⟨b,o+m.toNat * inf.size,none⟩),?_,?_⟩
               · have hb:(0:Int)<=m∧m < ((xs.length:Nat):Int):=⟨by omega,by omega⟩
                 simp only [Instr.indexAt,asIntOf,Sem.run_bind,run_underlying' ht,Result.andThen_ok,Sem.run_pure,hb,and_self,if_true,run_sizeOf' hinf,add_none]
               · refine .ip _ b _ (fun j=>f (m.toNat * inf.size+j)) (fun j hj=>?_) (fun j hj=>?_) (fun j hj=>?_)
                 · rw [Nat.add_assoc];exact g1 _ (hll j hj)
                 · exact g2 _ (hll j hj)
                 · have:=g3 _ (hll j hj)
                   have e3:(flat xs)[m.toNat * inf.size+j]'(hll j hj)=v.cells[j]:=by
                    have:(flat xs)[m.toNat * inf.size+j]?=v.cells[j]?:=by
                     rw [<- List.getElem?_drop,e1,e2,List.getElem?_append_left hj]
                    rw [List.getElem?_eq_getElem (hll j hj),List.getElem?_eq_getElem hj] at this
                    injection this
                   rw [<- e3]
                   exact this
           · cases h
         · cases h
       · rename_i s hel hs
         obtain ⟨inf,hinf,rfl⟩:=tSize_some hs
         split at h
         · split at h
           · rename_i hlen
             injection h with h;subst h
             obtain ⟨b,cap,hm',hcap,rfl⟩:=hx.rs_inv
             refine ⟨_,?_,.bp _ _ b hm'⟩
             have hb:(0:Int)<=m∧m < ((_:Nat):Int):=⟨by omega,hlen⟩
             simp only [Instr.indexAt,asIntOf,Sem.run_bind,run_underlying' ht,Result.andThen_ok,Sem.run_pure,hb,and_self,if_true,run_sizeOf' hinf,add_none,Nat.zero_add]
           · cases h
         · cases h
       · cases h
     · rename_i len el ht
       split at h
       · rename_i hlen
         split at h
         · rename_i s hs
           obtain ⟨inf,hinf,rfl⟩:=tSize_some hs
           have hb:(0:Int)<=m∧m < (len:Int):=⟨by omega,hlen⟩
           split at h
           · injection h with h;subst h
             obtain ⟨b,o,rfl,g,g1,g2,g3⟩:=hx.ip_cells
             refine ⟨_,?_,Rep.ip_drop (m.toNat * inf.size) g1 g2 g3⟩
             simp only [Instr.indexAt,Instr.sureAddr,asIntOf,Sem.run_bind,run_underlying' ht,Result.andThen_ok,Sem.run_pure,hb,and_self,if_true,run_sizeOf' hinf,add_none]
           · injection h with h;subst h
             obtain ⟨b,hm',rfl⟩:=hx.bp_inv
             refine ⟨_,?_,.bp _ _ b hm'⟩
             simp only [Instr.indexAt,Instr.sureAddr,asIntOf,Sem.run_bind,run_underlying' ht,Result.andThen_ok,Sem.run_pure,hb,and_self,if_true,run_sizeOf' hinf,add_none]
           · cases h
         · cases h
       · cases h
     · cases h
 · cases h
theorem indexV_run {t:TypeId} {x i:PV} {vx vi:Value} {p:PV} (h:indexV C t x i=some p) (hx:Rep S M x vx) (hi:Rep S M i vi) :
 ∃ v,(Instr.index t vx vi).run C.P w=.ok v w∧Rep S M p v:=by
 unfold indexV at h
 split at h
 · rename_i k m
   rw [hi.int_inv]
   split at h
   · cases h
   · rename_i hm
     split at h
     · rename_i s ht
       rw [hx.str_inv]
       split at h
       · rename_i b hg
         injection h with h;subst h
         refine ⟨_,?_,.int _ _⟩
         have hm0:(0:Int)<=m:=by omega
         have e:(⟨s.toArray⟩:ByteArray)[m.toNat]?=some b:=by
          rw [<- hg]
          by_cases hlt:m.toNat < s.length
          · rw [List.getElem?_eq_getElem hlt]
            have:m.toNat < (⟨s.toArray⟩:ByteArray).size:=by simpa [ByteArray.size] using hlt
            rw [getElem?_pos (⟨s.toArray⟩:ByteArray) m.toNat this]
            rfl
          · rw [List.getElem?_eq_none (by omega)] at hg;cases hg
         simp only [Instr.index,asIntOf,Sem.run_bind,run_underlying' ht,Result.andThen_ok,Sem.run_pure,hm0,if_true,e]
       · cases h
     · rename_i len el cs ht
       obtain ⟨vs,rfl,l,h1,hr⟩:=hx.agg_inv
       split at h
       · rename_i hlen
         split at h
         · rename_i s hs
           obtain ⟨inf,hinf,rfl⟩:=tSize_some hs
           have hb:(0:Int)<=m∧m < (len:Int):=⟨by omega,hlen⟩
           obtain ⟨v,hv,rv⟩:=partP_run (w:=w) h l h1 hr
           exact ⟨v,by simp only [Instr.index,asIntOf,Sem.run_bind,run_underlying' ht,Result.andThen_ok,Sem.run_pure,hb,and_self,if_true,run_sizeOf' hinf,hv],rv⟩
         · cases h
       · cases h
     · cases h
 · cases h
theorem lenP_run {t ty:TypeId} {x:PV} {vx:Value} {p:PV} {ats:Array TypeId} {vs:Array Value} (h1:ats[0]?=some t) (h2:vs[0]?=some vx) (h:lenP C t x=some p) (hx:Rep S M x vx) :
 ∃ v,(Builtin.len_ ats ty vs).run C.P w=.ok v w∧Rep S M p v:=by
 unfold lenP at h
 split at h
 · rename_i s ht
   injection h with h;subst h
   obtain rfl:=hx.str_inv
   refine ⟨_,?_,.int _ _⟩
   have e:(⟨s.toArray⟩:ByteArray).size=s.length:=by simp [ByteArray.size]
   simp only [Builtin.len_]
   simp only [h1,h2,Sem.run_bind,run_underlying' ht,Result.andThen_ok,e]
   rfl
 · rename_i m el x' ht
   injection h with h;subst h
   refine ⟨_,?_,.int _ _⟩
   simp only [Builtin.len_]
   simp only [h1,h2,Sem.run_bind,run_underlying' ht,Result.andThen_ok]
   rfl
 · rename_i ht
   injection h with h;subst h
   obtain ⟨b,cap,hm',hcap,rfl⟩:=hx.rs_inv
   refine ⟨_,?_,.int _ _⟩
   simp only [Builtin.len_]
   simp only [h1,h2,Sem.run_bind,run_underlying' ht,Result.andThen_ok]
   rfl
 · rename_i ht hnr
   obtain ⟨xs,hel,rfl⟩:=Option.map_eq_some_iff.1 h
   obtain ⟨ad,cap,rfl,hcap,hcells⟩:=hx.elems_inv hel
   refine ⟨_,?_,.int _ _⟩
   simp only [Builtin.len_]
   simp only [h1,h2,Sem.run_bind,run_underlying' ht,Result.andThen_ok]
   rfl
 · cases h
theorem maxP_run:∀ (r:List PV) (vr:List Value) (x:PV) (vx:Value) (p:PV),RepL S M r vr->Rep S M x vx ->
 r.foldlM (fun a b=>match a,b with
  | .int k x,.int k' y=>if k=k' then some (.int k (if y > x then y else x)) else none
  | _,_=>none) x=some p->∃ v,(vr.foldlM Builtin.max2 vx).run C.P w=.ok v w∧Rep S M p v
 | [],vr,x,vx,p,hr,hx,h=>by
  have:vr=[]:=List.eq_nil_of_length_eq_zero (by simpa using hr.1.symm)
  subst this
  simp only [List.foldlM_nil,Option.pure_def,Option.some.injEq] at h
  subst h
  exact ⟨vx,by simp,hx⟩
 | q :: r,vr,x,vx,p,hr,hx,h=>by
  cases vr with
  | nil=>exact absurd hr.1 (by simp)
  | cons u vr=>
   obtain ⟨hq,hr'⟩:=hr.cons_inv
   simp only [List.foldlM_cons] at h
   obtain ⟨z,hz,h⟩:=Option.bind_eq_some_iff.1 h
   split at hz
   · rename_i k xx k' yy
     split at hz
     · injection hz with hz;subst hz
       rw [hx.int_inv,hq.int_inv]
       obtain ⟨v,hv,rv⟩:=maxP_run r vr _ (.int k (if yy > xx then yy else xx)) p hr' (.int _ _) h
       exact ⟨v,by simpa [Builtin.max2] using hv,rv⟩
     · cases hz
   · cases hz
theorem minP_run:∀ (r:List PV) (vr:List Value) (x:PV) (vx:Value) (p:PV),RepL S M r vr->Rep S M x vx ->
 r.foldlM (fun a b=>match a,b with
  | .int k x,.int k' y=>if k=k' then some (.int k (if y < x then y else x)) else none
  | _,_=>none) x=some p->∃ v,(vr.foldlM Builtin.min2 vx).run C.P w=.ok v w∧Rep S M p v
 | [],vr,x,vx,p,hr,hx,h=>by
  have:vr=[]:=List.eq_nil_of_length_eq_zero (by simpa using hr.1.symm)
  subst this
  simp only [List.foldlM_nil,Option.pure_def,Option.some.injEq] at h
  subst h
  exact ⟨vx,by simp,hx⟩
 | q :: r,vr,x,vx,p,hr,hx,h=>by
  cases vr with
  | nil=>exact absurd hr.1 (by simp)
  | cons u vr=>
   obtain ⟨hq,hr'⟩:=hr.cons_inv
   simp only [List.foldlM_cons] at h
   obtain ⟨z,hz,h⟩:=Option.bind_eq_some_iff.1 h
   split at hz
   · rename_i k xx k' yy
     split at hz
     · injection hz with hz;subst hz
       rw [hx.int_inv,hq.int_inv]
       obtain ⟨v,hv,rv⟩:=minP_run r vr _ (.int k (if yy < xx then yy else xx)) p hr' (.int _ _) h
       exact ⟨v,by simpa [Builtin.min2] using hv,rv⟩
     · cases hz
   · cases hz
theorem Sim.opdL (h:Sim C D B T S M n st a w) (xs:List Operand):RepL S M (xs.map (HH.opd C st.env)) (xs.map a.eval):=
 ⟨by simp,fun i hi hi'=>by simpa using h.opd (xs[i]'(by simpa using hi))⟩
theorem Sim.sealL (h:Sim C D B T S M n st a w) (xs:List Operand):RepL S M (xs.map fun x=>(HH.opd C st.env x).shutV) (xs.map a.eval):=
 ⟨by simp,fun i hi hi'=>by simpa using (h.opd (xs[i]'(by simpa using hi))).shutV⟩
def RepC (S:Store) (M:List Nat) (ps:List PV) (vs:Array Value):Prop:=
 vs.size=ps.length∧(∀ i (h:i < vs.size),(vs[i]).oneCell'=true)∧∀ i (h:i < ps.length) (h':i < vs.size),Rep S M ps[i] vs[i]
theorem Rep.oneCell {p:PV} {v:Value} (h:Rep S M p v) (h1:p.one=true):v.oneCell'=true∧v.cells=#[v]:=by
 cases h with
 | osl e xs v h=>cases h <;> exact ⟨rfl,rfl⟩
 | _=>first | (simp [PV.one] at h1;done) | exact ⟨rfl,rfl⟩
theorem Rep.cells {p:PV} {v:Value} (h:Rep S M p v) (hv:p.val=true):RepC S M p.cells v.cells:=by
 have single:p.one=true->p.cells=[p]->RepC S M p.cells v.cells:=by
  intro h1 hc
  obtain ⟨a,b⟩:=h.oneCell h1
  rw [hc,b]
  exact ⟨rfl,fun i hi=>by simp at hi;subst hi;exact a,fun i hi hi'=>by simp at hi;subst hi;exact h⟩
 cases p with
 | agg cs=>
  obtain ⟨vs,rfl,l,h1,hr⟩:=h.agg_inv
  exact ⟨l,h1,hr⟩
 | top=>simp [PV.val] at hv
 | tup vs=>simp [PV.val] at hv
 | _=>exact single rfl rfl
theorem foldl_lay (vs:List Value) (off:Nat):∀ (k:Nat) (cells:Array Value),off+k+vs.length<=cells.size ->
 ((vs.zipIdx k).foldl (fun cs (x:Value×Nat)=>cs.setIfInBounds (off+x.2) x.1) cells).toList=cells.toList.take (off+k)++vs++cells.toList.drop (off+k+vs.length):=by
 induction vs with
 | nil=>intro k cells h;simp
 | cons v r ih=>
  intro k cells h
  simp only [List.length_cons] at h
  simp only [List.zipIdx_cons,List.foldl_cons]
  rw [show off+k+(v :: r).length=off+(k+1)+r.length by simp;omega]
  rw [ih (k+1) _ (by simp;omega)]
  rw [Array.toList_setIfInBounds]
  have hlt:off+k < cells.toList.length:=by simp;omega
  rw [List.drop_set_of_lt (by omega)]
  congr 1
  rw [show off+(k+1)=(off+k)+1 by omega,List.take_add_one]
  rw [List.getElem?_set_self hlt,List.take_set_of_le (by omega)]
  simp
theorem lay_rep {cells:List PV} {vc:Array Value} {ps:List PV} {vs:Array Value} {off:Nat} (hc:RepC S M cells vc) (hp:RepC S M ps vs) (hl:off+ps.length<=cells.length) :
 RepC S M (lay cells off ps) (vs.zipIdx.foldl (fun cs (x:Value×Nat)=>cs.setIfInBounds (off+x.2) x.1) vc):=by
 have e:(vs.zipIdx.foldl (fun cs (x:Value×Nat)=>cs.setIfInBounds (off+x.2) x.1) vc).toList=vc.toList.take off++vs.toList++vc.toList.drop (off+vs.size):=by
  rw [<- Array.foldl_toList,Array.toList_zipIdx]
  have:=foldl_lay vs.toList off 0 vc (by have:=hp.1;have:=hc.1;simp;omega)
  simpa using this
 generalize hR:vs.zipIdx.foldl (fun cs (x:Value×Nat)=>cs.setIfInBounds (off+x.2) x.1) vc=R at e
 have h1:=hp.1
 have h2:=hc.1
 have hsz:R.size=(lay cells off ps).length:=by
  have:R.toList.length=R.size:=by simp
  rw [<- this,e]
  simp [lay];omega
 have get:∀ i (h:i < R.size),(i < off∧∃ h':i < vc.size,R[i]=vc[i])∨(off<=i∧i < off+ps.length∧∃ h':i - off < vs.size,R[i]=vs[i - off])∨(off+ps.length<=i∧∃ h':i < vc.size,R[i]=vc[i]):=by
  intro i h
  have hx:R[i]?=(vc.toList.take off++vs.toList++vc.toList.drop (off+vs.size))[i]?:=by rw [<- e];simp
  rw [Array.getElem?_eq_getElem h] at hx
  have hsz':R.size=vc.size:=by rw [hsz];simp [lay];omega
  by_cases c1:i < off
  · refine .inl ⟨c1,by omega,?_⟩
    rw [List.append_assoc,List.getElem?_append_left (by simp;omega),List.getElem?_take_of_lt c1] at hx
    have:=Array.getElem?_eq_getElem (xs:=vc) (i:=i) (by omega)
    simp [this] at hx
    exact hx
  · by_cases c2:i < off+ps.length
    · refine .inr (.inl ⟨by omega,c2,by omega,?_⟩)
      rw [List.append_assoc,List.getElem?_append_right (by simp;omega),List.getElem?_append_left (by simp;omega)] at hx
      have hlen:(vc.toList.take off).length=off:=by simp;omega
      rw [hlen] at hx
      have:=Array.getElem?_eq_getElem (xs:=vs) (i:=i - off) (by omega)
      simp [this] at hx
      exact hx
    · refine .inr (.inr ⟨by omega,by omega,?_⟩)
      rw [List.getElem?_append_right (by simp;omega),List.getElem?_drop] at hx
      have hlen:(vc.toList.take off++vs.toList).length=off+vs.size:=by simp;omega
      rw [hlen] at hx
      rw [show off+vs.size+(i - (off+vs.size))=i by omega] at hx
      have:=Array.getElem?_eq_getElem (xs:=vc) (i:=i) (by omega)
      simp [this] at hx
      exact hx
 refine ⟨hsz,fun i h=>?_,fun i h h'=>?_⟩
 · rcases get i h with ⟨_,hh,e⟩ | ⟨_,_,hh,e⟩ | ⟨_,hh,e⟩ <;> rw [e]
   · exact hc.2.1 _ _
   · exact hp.2.1 _ _
   · exact hc.2.1 _ _
 · rcases get i h' with ⟨c,hh,e⟩ | ⟨c,c',hh,e⟩ | ⟨c,hh,e⟩ <;> rw [e]
   · have:(lay cells off ps)[i]=cells[i]'(by omega):=by
      simp only [lay]
      rw [List.getElem_append_left (by simp;omega),List.getElem_append_left (by simp;omega),List.getElem_take]
     rw [this];exact hc.2.2 _ _ _
   · have:(lay cells off ps)[i]=ps[i - off]'(by omega):=by
      simp only [lay]
      rw [List.getElem_append_left (by simp;omega),List.getElem_append_right (by simp;omega)]
      congr 1
      simp;omega
     rw [this];exact hp.2.2 _ _ _
   · have:(lay cells off ps)[i]=cells[i]'(by omega):=by
      simp only [lay]
      rw [List.getElem_append_right (by simp;omega),List.getElem_drop]
      congr 1
      simp;omega
     rw [this];exact hc.2.2 _ _ _
theorem fillP_run {place:Nat->Option (Nat×Nat)}:∀ (parts:List (Nat×PV)) (vparts:List (Nat×Value)) (cells:List PV) (vc:Array Value) (r:List PV),
 parts.length=vparts.length->(∀ i (h:i < parts.length) (h':i < vparts.length),parts[i].1=vparts[i].1∧Rep S M parts[i].2 vparts[i].2) ->
 RepC S M cells vc->fillP place cells parts=some r->∃ vr,Instr.fill place vc vparts=some vr∧RepC S M r vr
 | [],vparts,cells,vc,r,hl,_,hc,h=>by
  have:vparts=[]:=List.eq_nil_of_length_eq_zero hl.symm
  subst this
  simp only [fillP,Option.some.injEq] at h
  subst h
  exact ⟨vc,rfl,hc⟩
 | (i,v) :: rest,vparts,cells,vc,r,hl,hp,hc,h=>by
  cases vparts with
  | nil=>simp at hl
  | cons u vparts=>
   obtain ⟨j,u⟩:=u
   have h0:=hp 0 (by simp) (by simp)
   simp only [List.getElem_cons_zero] at h0
   obtain ⟨rfl,hv⟩:=h0
   unfold fillP at h
   unfold Instr.fill
   split at h
   · cases h
   · rename_i off size hpl
     simp only [hpl]
     split at h
     · rename_i hcond
       simp only [Bool.and_eq_true,beq_iff_eq,decide_eq_true_eq] at hcond
       obtain ⟨⟨hval,hsz⟩,hle⟩:=hcond
       have hcells:=hv.cells hval
       have h1:=hcells.1
       have h2:=hc.1
       rw [if_neg (by simp;omega)]
       exact fillP_run rest vparts _ _ r (by simpa using hl) (fun k a b=>by
        have:=hp (k+1) (by simpa using a) (by simpa using b)
        simp only [List.getElem_cons_succ] at this
        exact this) (lay_rep hc hcells hle) h
     · cases h
theorem tZero_some {t:TypeId} {z:PV} (h:tZero C t=some z):∃ i v,C.P.info? t=some i∧i.zero=some v∧z=cval v:=by
 unfold HH.tZero at h
 cases hi:C.P.info? t with
 | none=>simp [hi] at h
 | some i=>
  cases hz:i.zero with
  | none=>simp [hi,hz] at h
  | some v=>exact ⟨i,v,rfl,hz,by simpa [hi,hz] using h.symm⟩
theorem buildP_run {t:TypeId} {parts:List (Nat×PV)} {vparts:Array (Nat×Value)} {p:PV} (h:buildP C t parts=some p)
 (hl:parts.length=vparts.size) (hp:∀ i (h:i < parts.length) (h':i < vparts.size),parts[i].1=vparts[i].1∧Rep S M parts[i].2 vparts[i].2) :
 ∃ v,(Instr.build t vparts).run C.P w=.ok v w∧Rep S M p v:=by
 unfold buildP at h
 split at h
 · rename_i fields z ht hz
   obtain ⟨it,zv,hit,hiz,rfl⟩:=tZero_some hz
   split at h
   · rename_i places hpl
     split at h
     · rename_i hval
       obtain ⟨r,hr,rfl⟩:=Option.map_eq_some_iff.1 h
       obtain ⟨vr,hvr,rr⟩:=fillP_run parts vparts.toList _ _ r (by simpa using hl) (fun i a b=>by simpa using hp i a (by simpa using b)) ((Rep.cval (S:=S) (M:=M) zv).cells hval) hr
       refine ⟨.agg vr,run_build w t vparts vr ?_,.agg _ _ rr.1 rr.2.1 rr.2.2⟩
       have hpl':fields.toList.mapM (fun f=>(C.P.info? f.type).map fun i=>(f.offset,i.size))=some places:=by
        rw [<- hpl];congr 1;funext f;simp [HH.tSize,Option.map_map];rfl
       simp only [Program.built,hit,ht,hiz,hpl']
       simpa using hvr
     · cases h
   · cases h
 · rename_i k e z ht hz
   obtain ⟨it,zv,hit,hiz,rfl⟩:=tZero_some hz
   split at h
   · rename_i s hs
     obtain ⟨ie,hie,rfl⟩:=tSize_some hs
     split at h
     · rename_i hval
       obtain ⟨r,hr,rfl⟩:=Option.map_eq_some_iff.1 h
       obtain ⟨vr,hvr,rr⟩:=fillP_run parts vparts.toList _ _ r (by simpa using hl) (fun i a b=>by simpa using hp i a (by simpa using b)) ((Rep.cval (S:=S) (M:=M) zv).cells hval) hr
       refine ⟨.agg vr,run_build w t vparts vr ?_,.agg _ _ rr.1 rr.2.1 rr.2.2⟩
       simp only [Program.built,hit,ht,hiz,hie]
       exact hvr
     · cases h
   · cases h
 · cases h
end
end Go.HH
