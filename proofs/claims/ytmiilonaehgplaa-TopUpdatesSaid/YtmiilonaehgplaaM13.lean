/-
  What the law needs, packed: Step5.
-/
import Derived.Test.YtmiilonaehgplaaM12
namespace Go.HH
open Go Go.RowKit
section
variable {C:Cfg} {D:List Deferred} {B:Nat} {T:Nat->Prop} {S:Store} {M:List Nat} {n:Nat} {st:St} {a:Act} {w:World}
theorem flat_length {xs:List PV} {sz:Nat} (h:∀ x ∈ xs,x.cells.length=sz):(flat xs).length=xs.length * sz:=by
 induction xs with
 | nil=>simp [flat]
 | cons x r ih=>
  have:=ih (fun y hy=>h y (by simp [hy]))
  simp only [flat,List.flatMap_cons,List.length_append,List.length_cons] at this ⊢
  rw [h x (by simp),this,Nat.add_mul,Nat.one_mul,Nat.add_comm]
theorem flat_set {xs:List PV} {sz:Nat} (h:∀ x ∈ xs,x.cells.length=sz) {i:Nat} (hi:i < xs.length) {v:PV} (hv:v.cells.length=sz):flat (xs.set i v)=lay (flat xs) (i * sz) v.cells:=by
 have e1:xs.set i v=xs.take i++v :: xs.drop (i+1):=by rw [List.set_eq_take_append_cons_drop,if_pos hi]
 rw [e1,flat_append]
 have e2:flat (v :: xs.drop (i+1))=v.cells++flat (xs.drop (i+1)):=by simp [flat]
 rw [e2]
 unfold lay
 have e3:flat (xs.take i)=(flat xs).take (i * sz):=by
  have hs:flat xs=flat (xs.take i)++flat (xs.drop i):=by rw [<- flat_append,List.take_append_drop]
  have hl:(flat (xs.take i)).length=i * sz:=by
   rw [flat_length (fun x hx=>h x (List.mem_of_mem_take hx))];rw [List.length_take,Nat.min_eq_left (by omega)]
  rw [hs,List.take_left' hl]
 have e4:flat (xs.drop (i+1))=(flat xs).drop (i * sz+v.cells.length):=by
  rw [hv,<- flat_take_drop xs (i+1) sz h (by omega),Nat.add_mul,Nat.one_mul]
 rw [e3,e4,List.append_assoc]
theorem Sim.newRow (h:Sim C D B T S M n st a w) {d:Option Tmp} (hd:∀ k,d=some k->k < n) {e:TypeId} {i:TypeInfo} (hi:C.P.info? e=some i) {xs:List PV} (hx:∀ x ∈ xs,x.cells.length=i.size)
 {c:Array Value} (cap:Nat) (hcap:c.size=cap * i.size) (hl:xs.length<=cap) (hm:cap<=maxLen)
 (hc:RepC S M (flat xs) (c.extract 0 (xs.length * i.size))) (w0:World) (h0:w0.heap=w.heap) (h1:w0.os=w.os) (h2:w0.tape=w.tape) (h3:w0.output=w.output) :
 ∃ S',Sim C D B T S' M n (st.put d (.osl e xs)) (a.put d (.slice (some ⟨w.heap.size,0,none⟩) xs.length cap)) (w0.alloc (.cells c e))∧Grows B T S w S' (w0.alloc (.cells c e)):=by
 have hk:=Kept.alloc h c e (xs.length * i.size) w0 h0 h1 h2 h3
 have hfl:=flat_length hx
 have hle:xs.length * i.size<=cap * i.size:=Nat.mul_le_mul_right _ hl
 refine ⟨_,(h.kept hk).putG d hd ?_ (fun e' xs' heq=>?_),hk.grows h.hB⟩
 · refine .osl e xs _ ?_
   by_cases hnil:xs=[]
   · subst hnil;exact .slE _ _
   · refine .sl xs _ 0 cap (fun j=>c.getD j undef) hl ⟨_,hx⟩ (fun j hj=>?_) (fun j hj=>?_) (fun j hj=>?_)
     · rw [hfl] at hj
       unfold Store.add
       simp only [if_true,Nat.zero_add]
       rw [List.getElem?_take_of_lt hj]
       have hlt:j < c.size:=by omega
       simp [Array.getD,hlt]
     · rw [hfl] at hj
       have hlt:j < c.size:=by omega
       have:=hc.2.1 j (by simp;omega)
       simp only [Array.getElem_extract] at this
       simpa [Array.getD,hlt] using this
     · have hj':=hj
       rw [hfl] at hj'
       have hlt:j < c.size:=by omega
       have:=hc.2.2 j hj (by simp;omega)
       simp only [Array.getElem_extract] at this
       have:=this.mono hk.store (fun _ _ x=>x)
       simpa [Array.getD,hlt] using this
 · injection heq with e1 e2
   subst e1
   subst e2
   refine ⟨⟨i,(c.toList.take (xs.length * i.size)),hi,⟨by simp;omega,.inr ⟨w.heap.size,cap,c,rfl,Nat.zero_le _,by rw [<- h0];exact heap_alloc_new w0 _,hl,hm,hcap,rfl⟩⟩,hx,fun g hg=>?_⟩,fun g hg=>?_,fun l e' xs' u g _ hl' hu hv=>?_⟩
   · simp only [Value.ownBlock,Option.some.injEq] at hg
     subst hg
     refine ⟨fun hm=>by have:=h.mlt hm;omega,fun j hj=>?_⟩
     unfold Store.add
     simp only [if_true]
     rw [List.getElem?_eq_none]
     simp;omega
   · simp only [Value.ownBlock,Option.some.injEq] at hg
     subst hg
     exact .inl h.hB
   · simp only [Value.ownBlock,Option.some.injEq] at hv
     subst hv
     have hl2:=LocAt.back (M:=M) (fun b hb=>hk.block b (h.mlt hb)) hl'
     have:=(h.own l e' xs' u hl2).1.lt hu
     omega
theorem sealNew_some {ag:Bool} {size:Nat} {p q:PV} (h:sealNew ag size p=some q):q=p.shutV∧q.cells.length=size∧q.val=true:=by
 unfold sealNew at h
 split at h
 · rename_i cs hs
   split at h
   · rename_i hc
     injection h with h;subst h
     simp only [Bool.and_eq_true,beq_iff_eq] at hc
     exact ⟨hs.symm,hc.2,rfl⟩
   · cases h
 · rename_i hno
   split at h
   · rename_i hc
     injection h with h;subst h
     simp only [Bool.and_eq_true,beq_iff_eq] at hc
     obtain ⟨⟨_,h1⟩,rfl⟩:=hc
     refine ⟨rfl,?_,?_⟩
     · generalize p.shutV=q at *
       cases q <;> simp_all [PV.cells,PV.one]
     · generalize p.shutV=q at *
       cases q <;> simp_all [PV.val,PV.one]
   · cases h
theorem fill_elems {ag:Bool} {size len:Nat}:∀ (parts:List (Nat×PV)) (vparts:List (Nat×Value)) (xs ys:List PV) (vc:Array Value),
 parts.length=vparts.length->(∀ i (h:i < parts.length) (h':i < vparts.length),parts[i].1=vparts[i].1∧Rep S M parts[i].2 vparts[i].2) ->
 (∀ x ∈ xs,x.cells.length=size)->xs.length=len->RepC S M (flat xs) vc ->
 parts.foldlM (fun (l:List PV) (p:Nat×PV)=>match sealNew ag size p.2 with
  | some v=>if p.1 < len then some (l.set p.1 v) else none
  | none=>none) xs=some ys ->
 ∃ vr,Instr.fill (fun i=>some (i * size,size)) vc vparts=some vr∧RepC S M (flat ys) vr∧(∀ x ∈ ys,x.cells.length=size)∧ys.length=len
 | [],vparts,xs,ys,vc,hl,_,hx,hlen,hc,h=>by
  have:vparts=[]:=List.eq_nil_of_length_eq_zero hl.symm
  subst this
  simp only [List.foldlM_nil,Option.pure_def,Option.some.injEq] at h
  subst h
  exact ⟨vc,rfl,hc,hx,hlen⟩
 | (i,p) :: rest,vparts,xs,ys,vc,hl,hp,hx,hlen,hc,h=>by
  cases vparts with
  | nil=>simp at hl
  | cons u vparts=>
   obtain ⟨j,u⟩:=u
   have h0:=hp 0 (by simp) (by simp)
   simp only [List.getElem_cons_zero] at h0
   obtain ⟨rfl,hv⟩:=h0
   simp only [List.foldlM_cons] at h
   obtain ⟨z,hz,h⟩:=Option.bind_eq_some_iff.1 h
   split at hz
   · rename_i v hsn
     split at hz
     · rename_i hi
       injection hz with hz
       subst hz
       obtain ⟨rfl,hvl,hvv⟩:=sealNew_some hsn
       have hcells:=hv.shutV.cells hvv
       have hfl:=flat_length hx
       have h1:=hcells.1
       have h2:=hc.1
       have hle:i * size+size<=xs.length * size:=by
        rw [<- Nat.succ_mul];exact Nat.mul_le_mul_right _ (by omega)
       have hcu:u.cells=u.cells:=rfl
       unfold Instr.fill
       simp only []
       rw [if_neg (by simp;omega)]
       have hset:=flat_set hx (i:=i) (by omega) hvl
       refine fill_elems rest vparts (xs.set i p.shutV) ys _ (by simpa using hl) (fun k x y=>by
        have:=hp (k+1) (by simpa using x) (by simpa using y)
        simp only [List.getElem_cons_succ] at this
        exact this) (fun x hx'=>?_) (by simpa using hlen) (by rw [hset];exact lay_rep hc hcells (by omega)) h
       rcases List.mem_or_eq_of_mem_set hx' with h | h
       · exact hx x h
       · rw [h];exact hvl
     · cases hz
   · cases hz
theorem zeros_rep {z:PV} {zv:Value} (hz:Rep S M z zv) (hv:z.val=true) {size:Nat} (hs:z.cells.length=size) (h0:size≠0) (len:Nat) :
 RepC S M (flat (List.replicate len z)) ((Array.range (len * size)).map (zv.cells[· % zv.cells.size]!)):=by
 have hc:=hz.cells hv
 have hsz:zv.cells.size=size:=by rw [hc.1,hs]
 have hfl:(flat (List.replicate len z)).length=len * size:=by rw [flat_length (sz:=size) (fun x hx=>by rw [List.eq_of_mem_replicate hx];exact hs)];simp
 have key:∀ (len i:Nat) (h:i < (flat (List.replicate len z)).length),(flat (List.replicate len z))[i]=z.cells[i % size]'(by rw [hs];exact Nat.mod_lt _ (by omega)):=by
  intro len
  induction len with
  | zero=>intro i h;simp [flat] at h
  | succ k ih=>
   intro i h
   have e:flat (List.replicate (k+1) z)=z.cells++flat (List.replicate k z):=by simp [flat,List.replicate_succ]
   have:(flat (List.replicate (k+1) z))[i]?=z.cells[i % size]?:=by
    rw [e]
    by_cases hi:i < size
    · rw [List.getElem?_append_left (by omega),Nat.mod_eq_of_lt hi]
    · rw [List.getElem?_append_right (by omega),hs]
      have hlt:i - size < (flat (List.replicate k z)).length:=by rw [e] at h;simp at h;omega
      rw [List.getElem?_eq_getElem hlt,ih _ hlt]
      have:(i - size) % size=i % size:=by
       conv=>rhs;rw [show i=(i - size)+size by omega,Nat.add_mod_right]
      simp only [this]
      rw [List.getElem?_eq_getElem]
   rw [List.getElem?_eq_getElem h,List.getElem?_eq_getElem (by rw [hs];exact Nat.mod_lt _ (by omega))] at this
   injection this
 refine ⟨by simp [hfl],fun i hi=>?_,fun i hi hi'=>?_⟩
 · have hm:i % zv.cells.size < zv.cells.size:=Nat.mod_lt _ (by omega)
   simp only [Array.getElem_map,Array.getElem_range]
   rw [getElem!_pos zv.cells (i % zv.cells.size) hm]
   exact hc.2.1 _ hm
 · have hm:i % zv.cells.size < zv.cells.size:=Nat.mod_lt _ (by omega)
   simp only [Array.getElem_map,Array.getElem_range]
   rw [getElem!_pos zv.cells (i % zv.cells.size) hm,key]
   have:=hc.2.2 (i % size) (by rw [hs];exact Nat.mod_lt _ (by omega)) (by rw [hsz];exact Nat.mod_lt _ (by omega))
   simpa only [hsz] using this
theorem step_buildSlice (h:Sim C D B T S M n st a w) {o:Oper} (hd:∀ k,o.dst=some k->k < n) {al:List (Nat×Loc)} (hal:AlOK M a w al) {t:TypeId} {len:Nat} {parts:Array (Nat×Operand)} (ho:o.op=.buildSlice t len parts)
 {p:PV} (hp:buildSliceP C t len (parts.toList.map fun p=>(p.1,opd C st.env p.2))=some p) :
 StepTo C D B T S M n a w o (.next (st.put o.dst p) (killT al o.dst)):=by
 intro K Q hK
 unfold buildSliceP at hp
 split at hp
 · rename_i e ht
   split at hp
   · rename_i i z hi hz
     obtain ⟨i',zv,hi',hzv,rfl⟩:=tZero_some hz
     rw [hi] at hi'
     injection hi' with hi'
     subst hi'
     split at hp
     · cases hp
     · rename_i hcond
       simp only [not_or,Nat.not_lt,Decidable.not_not] at hcond
       obtain ⟨hs0,hbig,hzl,hval⟩:=hcond
       have hval:(cval zv).val=true:=by simpa using hval
       split at hp
       · rename_i xs hxs
         injection hp with hp
         subst hp
         · have hzr:=zeros_rep (Rep.cval (S:=S) (M:=M) zv) hval hzl hs0 len
           obtain ⟨vr,hfill,hrc,hxz,hxl⟩:=fill_elems (S:=S) (M:=M) (parts.toList.map fun p=>(p.1,opd C st.env p.2)) (parts.toList.map fun p=>(p.1,a.eval p.2)) _ xs _ (by simp) (fun i h1 h2=>by
            simp only [List.getElem_map]
            exact ⟨trivial,h.opd _⟩) (fun x hx=>by rw [List.eq_of_mem_replicate hx];exact hzl) (by simp) hzr hxs
           have hvrs:vr.size=len * i.size:=by rw [hrc.1,flat_length hxz,hxl]
           have hfull:vr.extract 0 (xs.length * i.size)=vr:=by rw [hxl,<- hvrs];simp
           have hlen16:len<=maxLen:=by
            have:len<=len * i.size:=Nat.le_mul_of_pos_right _ (by omega)
            unfold maxLen;omega
           obtain ⟨S',hsim,hgr⟩:=h.newRow hd hi hxz (c:=vr) len (by rw [hvrs]) (by omega) hlen16 (by rw [hfull];exact hrc) w rfl rfl rfl rfl
           have hv:(execOp a.eval o).run C.P w=.ok (.value (.slice (some ⟨w.heap.size,0,none⟩) len len)) (w.alloc (.cells vr e)):=by
            rw [execOp,ho]
            have hnb:¬ (len * i.size > 2 ^ 24):=by omega
            have hparts:(parts.map fun x=>match x with | (i,x)=>(i,a.eval x)).toList=parts.toList.map fun p=>(p.1,a.eval p.2):=by simp
            simp only [Instr.buildSlice,Sem.run_bind,run_underlying' ht,run_sizeOf' hi,Result.andThen_ok,if_neg hnb,Sem.run_pure]
            by_cases hl0:len * i.size=0
            · have:len=0:=by rcases Nat.mul_eq_zero.1 hl0 with h | h;exact h;exact absurd h hs0
              subst this
              simp only [Nat.zero_mul,if_true,Sem.run_bind,Sem.run_pure,Result.andThen_ok,hparts]
              have e0:((Array.range 0).map fun x=>(#[]:Array Value)[x % (#[]:Array Value).size]!)=(Array.range (0 * i.size)).map (zv.cells[· % zv.cells.size]!):=by simp
              rw [e0,hfill]
              rfl
            · simp only [if_neg hl0,zeroValue,typeInfo,hi,hzv,Sem.run_bind,run_program,Sem.run_pure,Result.andThen_ok,hparts]
              rw [hfill]
              rfl
           rw [hxl] at hsim
           refine upon_of_value hv (hK S' M _ _ hsim hgr (List.prefix_refl _) ?_)
           exact hal.put h.size hd _ (fun _ _ x=>x) (fun b hb=>heap_alloc_old w _ b (h.mlt hb))
       · cases hp
   · cases hp
 · cases hp
theorem cval1_no (v:Value) (e:TypeId) (xs:List PV):cval1 v≠.osl e xs:=by
 unfold cval1
 split <;> simp
theorem cval_no (v:Value):∀ p ∈ (cval v).cells,∀ e xs,p≠.osl e xs:=by
 intro p hp e xs
 unfold cval at hp
 split at hp
 · split at hp
   · simp only [PV.cells] at hp
     obtain ⟨q,_,rfl⟩:=List.mem_map.1 hp
     exact cval1_no q e xs
   · simp only [PV.cells,List.mem_singleton] at hp
     rw [hp];simp
 · have hx:∀ x:PV,(∀ cs,x≠.agg cs)->p ∈ x.cells->p=x:=by
    intro x hx hm
    cases x <;> simp_all [PV.cells]
   have:p=cval1 v:=hx _ (fun cs=>by unfold cval1;split <;> simp) hp
   rw [this]
   exact cval1_no v e xs
theorem step_makeSlice (h:Sim C D B T S M n st a w) {o:Oper} (hd:∀ k,o.dst=some k->k < n) {al:List (Nat×Loc)} (hal:AlOK M a w al) {t:TypeId} {l c:Operand} (ho:o.op=.makeSlice t l c)
 {p:PV} (hp:makeSliceP C t (opd C st.env l) (opd C st.env c)=some p) :
 StepTo C D B T S M n a w o (.next (newSl C st p o.dst) (killT al o.dst)):=by
 intro K Q hK
 unfold makeSliceP at hp
 split at hp
 · rename_i k1 m1 k2 m2 hl hc
   have el:a.eval l=.int k1 m1:=Rep.int_inv (hl ▸ h.opd l)
   have ec:a.eval c=.int k2 m2:=Rep.int_inv (hc ▸ h.opd c)
   split at hp
   · rename_i hb
     obtain ⟨rfl,hb1,hb2⟩:=hb
     split at hp
     · rename_i e ht
       split at hp
       · rename_i i hi
         split at hp
         · rename_i hby
           unfold buildSliceP at hp
           rw [ht] at hp
           simp only [hi] at hp
           cases hz:tZero C e with
           | none=>rw [hz] at hp;cases hp
           | some z=>
            rw [hz] at hp
            simp only at hp
            obtain ⟨i',zv,hi',hzv,rfl⟩:=tZero_some hz
            rw [hi] at hi'
            injection hi' with hi'
            subst hi'
            split at hp
            · cases hp
            · rename_i hcond
              simp only [not_or,Nat.not_lt,Decidable.not_not] at hcond
              obtain ⟨hs0,hbig,hzl,hval⟩:=hcond
              have hval:(cval zv).val=true:=by simpa using hval
              simp only [List.foldlM_nil] at hp
              injection hp with hp
              subst hp
              generalize hn:m1.toNat=len at *
              have hm:m1=(len:Int):=by omega
              have hzr:=zeros_rep (Rep.cval (S:=S) (M:=M) zv) hval hzl hs0 len
              have hxl:(List.replicate len (cval zv)).length=len:=List.length_replicate
              have hxz:∀ x ∈ List.replicate len (cval zv),x.cells.length=i.size:=fun x hx=>by rw [List.eq_of_mem_replicate hx];exact hzl
              generalize hvr:(Array.range (len * i.size)).map (zv.cells[· % zv.cells.size]!)=vr at *
              have hvrs:vr.size=len * i.size:=by rw [hzr.1,flat_length hxz,hxl]
              have hfull:vr.extract 0 ((List.replicate len (cval zv)).length * i.size)=vr:=by rw [hxl,<- hvrs];simp
              have hlen16:len<=maxLen:=by unfold maxLen;omega
              have hv:(execOp a.eval o).run C.P w=.ok (.value (.slice (some ⟨w.heap.size,0,none⟩) len len)) (w.alloc (.cells vr e)):=by
               rw [execOp,ho]
               have hle:i.bytes * len<=1000000 * 16777216:=Nat.mul_le_mul hby (by omega)
               have hb':(i.bytes:Int) * (len:Int)<=281474976710656:=by
                have:((i.bytes * len:Nat):Int)<=281474976710656:=by omega
                rwa [Int.natCast_mul] at this
               have hr:=run_make (P:=C.P) w t e i zv (by assumption) hi hzv k1 k2 len len (Int.natCast_nonneg _) (Int.le_refl _) hb' (by omega)
               rw [Int.toNat_natCast] at hr
               unfold madeCells at hr
               rw [hvr] at hr
               subst hm
               rw [<- el,<- ec] at hr
               simp only [hr,Sem.run_bind,Sem.run_pure,Result.andThen_ok]
              unfold newSl at hK
              by_cases hrw:C.rows e=true
              · simp only [if_pos hrw,hxl] at hK
                refine step_newrow h hd hal hzr (fun p hp e' xs'=>?_) (Nat.le_refl len) hv K Q hK
                unfold flat at hp
                rw [List.mem_flatMap] at hp
                obtain ⟨x,hx,hp⟩:=hp
                rw [List.eq_of_mem_replicate hx] at hp
                exact cval_no zv p hp e' xs'
              simp only [if_neg hrw] at hK
              obtain ⟨S',hsim,hgr⟩:=h.newRow hd hi hxz (c:=vr) len (by rw [hvrs]) (by omega) hlen16 (by rw [hfull];exact hzr) w rfl rfl rfl rfl
              rw [hxl] at hsim
              refine upon_of_value hv (hK S' M _ _ hsim hgr (List.prefix_refl _) ?_)
              exact hal.put h.size hd _ (fun _ _ x=>x) (fun b hb=>heap_alloc_old w _ b (h.mlt hb))
         · cases hp
       · cases hp
     · cases hp
   · cases hp
 · cases hp
end
end Go.HH
