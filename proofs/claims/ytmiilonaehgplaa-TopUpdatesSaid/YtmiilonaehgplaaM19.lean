/-
  What the law needs, packed: Region.
-/
import Derived.Test.YtmiilonaehgplaaM18
namespace Go.HH
open Go Go.RowKit
section
variable {C:Cfg} {D:List Deferred} {B:Nat} {T:Nat->Prop} {S:Store} {M:List Nat} {n:Nat} {st:St} {a:Act} {w:World}
theorem step_next (h:Sim C D B T S M n st a w) {o:Oper} (hd:∀ k,o.dst=some k->k < n) {al:List (Nat×Loc)} (hal:AlOK M a w al) {call:CallT} (draw:Bool) {x:Operand} (ho:o.op=.next x true) {r:OpR}
 (hr:stepOp C call draw al o st=some r):StepTo C D B T S M n a w o r:=by
 intro K Q hK
 unfold stepOp at hr
 rw [ho] at hr
 simp only at hr
 split at hr
 · rename_i id hx
   have hx':=h.opd x
   rw [hx] at hx'
   obtain ⟨b,hm,hv⟩:=hx'.bp_inv
   split at hr
   · rename_i s pos hb
     obtain ⟨b',hm',hbox⟩:=h.boxes id _ hb
     rw [hm] at hm'
     injection hm' with hm'
     subst hm'
     have hid:id < st.bx.length:=by
      rcases Nat.lt_or_ge id st.bx.length with h | h
      · exact h
      · rw [List.getElem?_eq_none h] at hb;cases hb
     cases hbox with
     | iter s pos b hh=>
      have hlt:=(Array.getElem?_eq_some_iff.1 hh).1
      have hsz:(⟨s.toArray⟩:ByteArray).size=s.length:=by simp [ByteArray.size]
      split at hr
      · rename_i hpos
        injection hr with hr
        subst hr
        let w':World:={ w with heap:=w.heap.setIfInBounds b (.stringIter ⟨s.toArray⟩ (pos+(Utf8.decode ⟨s.toArray⟩ pos).2)) }
        have hrun:(execOp a.eval o).run C.P w=.ok (.value (.tuple #[.bool true,goInt pos,.int .i32 (Utf8.decode ⟨s.toArray⟩ pos).1])) w':=by
         rw [execOp,ho]
         simp only [hv,Instr.next,getObj,setObj,Sem.run_bind,Sem.run,hh,Result.andThen_ok,hsz,if_pos hpos]
         rfl
        have hother:∀ k,k≠b->w'.heap[k]?=w.heap[k]?:=fun k hk=>by simp [w',Ne.symm hk]
        obtain ⟨hs,hg⟩:=h.setBoxObj (x:=.iter s (pos+(Utf8.decode ⟨s.toArray⟩ pos).2)) (w':=w') hm hid (.iter s _ b (by simp [w',hlt])) rfl rfl rfl (by simp [w']) hother (fun t cs off e xs v hx=>by cases hx)
        refine upon_of_value hrun (hK S M _ w' (hs.put o.dst hd ?_ (fun e xs=>by simp)) hg (List.prefix_refl _) ?_)
        · refine .tup _ _ rfl (fun i h1 h2=>?_)
          match i,h1 with
          | 0,_=>exact .bool true
          | 1,_=>exact .int _ _
          | 2,_=>exact .int _ _
        · intro p hpm
          obtain ⟨m1,m2⟩:=killT_mem hpm
          have hc:=hal p m1
          obtain ⟨d',l⟩:=p
          cases l with
          | tmp t=>
           simp only [ConcEq] at hc ⊢
           rw [put_get h.size hd _ (fun k hk=>(m2 k hk).1),put_get h.size hd _ (fun k hk=>by simpa using (m2 k hk).2)]
           exact hc
          | box id' off'=>
           obtain ⟨b2,e1,e2⟩:=hc
           refine ⟨b2,e1,?_⟩
           rw [put_get h.size hd _ (fun k hk=>(m2 k hk).1)]
           have hbb:b2≠b:=by
            rintro rfl
            unfold World.cell? at e2
            simp only at e2
            rw [hh] at e2
            cases e2
           rw [World.cell?_of_block (a:=⟨b2,off',none⟩) (hother b2 hbb)]
           exact e2
      · rename_i hpos
        injection hr with hr
        subst hr
        have hrun:(execOp a.eval o).run C.P w=.ok (.value (.tuple #[.bool false])) w:=by
         rw [execOp,ho]
         simp only [hv,Instr.next,getObj,Sem.run_bind,Sem.run,hh,Result.andThen_ok,hsz,if_neg hpos]
         rfl
        refine upon_of_value hrun (hK S M _ w (h.put o.dst hd ?_ (fun e xs=>by simp)) (Grows.refl _ _ _ _) (List.prefix_refl _) (hal.put h.size hd _ (fun _ _ x=>x) (fun _ _=>rfl)))
        refine .tup _ _ rfl (fun i h1 h2=>?_)
        match i,h1 with
        | 0,_=>exact .bool false
   · cases hr
 · cases hr
theorem step_panic (h:Sim C D B T S M n st a w) {o:Oper} {al:List (Nat×Loc)} {call:CallT} (draw:Bool) {x:Operand} (ho:o.op=.panic x) {r:OpR}
 (hr:stepOp C call draw al o st=some r):StepTo C D B T S M n a w o r:=by
 intro K Q hK
 unfold stepOp at hr
 rw [ho] at hr
 simp only at hr
 split at hr
 · rename_i t v hx
   injection hr with hr
   subst hr
   have hx':=h.opd x
   rw [hx] at hx'
   cases hu:a.eval x with
   | iface t' u=>
    have hrun:(execOp a.eval o).run C.P w=.halt (.panic (.iface t' u)) w:=by
     rw [execOp,ho]
     simp only [hu,Instr.panic,Sem.run_bind,run_goPanic,Result.andThen_halt]
    unfold Oper.wp
    rw [hrun]
    show Q (.panic [{ v:=.iface t' u,recovered:=false }]) a w
    rw [hu] at hx'
    exact hK S M a w _ _ h (Grows.refl _ _ _ _) (List.prefix_refl _) hx' rfl
   | _=>rw [hu] at hx';cases hx'
 · cases hr
theorem bytes_beq (s t:List UInt8):((⟨s.toArray⟩:ByteArray) == ⟨t.toArray⟩)=(s == t):=by
 show (s.toArray == t.toArray)=(s == t)
 simp
theorem ba_eq (a b:ByteArray) (h:(a == b)=true):a=b:=by
 obtain ⟨a⟩:=a
 obtain ⟨b⟩:=b
 have h:(a == b)=true:=h
 rw [eq_of_beq h]
theorem ba_self (a:ByteArray):(a == a)=true:=by
 obtain ⟨a⟩:=a
 show (a == a)=true
 simp
theorem sameNow_rep {d:TypeDesc} {x y:PV} {v u:Value} {b:Bool} (h:sameP d x y=some b) (hx:Rep S M x v) (hy:Rep S M y u):Instr.sameNow d v u=some b:=by
 unfold sameP at h
 split at h
 · rw [hx.int_inv,hy.int_inv]
   exact h
 · rw [hx.str_inv,hy.str_inv]
   rw [<- h]
   show some (_ == _)=some (_ == _)
   rw [bytes_beq]
 · cases h
theorem sameBits_of {d:TypeDesc} {v u:Value} (hk:keyD d=true) (h:Instr.sameNow d v u=some true):Instr.sameBits 10000 u v=true:=by
 unfold Instr.sameNow at h
 split at h
 · split at h
   · rename_i hkk
     injection h with h
     have:=eq_of_beq h
     subst this
     subst hkk
     simp [Instr.sameBits]
   · cases h
 · injection h with h
   have:=ba_eq _ _ h
   subst this
   simp [Instr.sameBits,ba_self]
 · cases hk
 · cases h
theorem findNow_rep {d:TypeDesc} {k:PV} {v:Value} (hkv:Rep S M k v):∀ (es:List (PV×PV)) (cs:List MapEntry) (i:Nat),es.length=cs.length->(∀ j (h:j < es.length) (h':j < cs.length),Rep S M es[j].1 cs[j].key∧Rep S M es[j].2 cs[j].val) ->
 ∀ r,findP d k es i=some r->match r with
  | none=>Instr.findNow d v cs i=some none
  | some (j,p)=>∃ u,Instr.findNow d v cs i=some (some (j,u))∧Rep S M p u∧i<=j∧∃ (h:j - i < cs.length),Instr.sameNow d v (cs[j - i]).key=some true
 | [],[],_,_,_,r,h=>by
  simp only [findP,Option.some.injEq] at h
  subst h
  rfl
 | [],_ :: _,_,hl,_,_,_=>by simp at hl
 | _ :: _,[],_,hl,_,_,_=>by simp at hl
 | e :: es,c :: cs,i,hl,hr,r,h=>by
  have h0:=hr 0 (by simp) (by simp)
  simp only [List.getElem_cons_zero] at h0
  unfold findP at h
  split at h
  · rename_i hs
    injection h with h
    subst h
    have hn:=sameNow_rep hs hkv h0.1
    refine ⟨c.val,?_,h0.2,Nat.le_refl _,by simp,by simpa using hn⟩
    unfold Instr.findNow
    rw [hn]
  · rename_i hs
    have hn:=sameNow_rep hs hkv h0.1
    have ih:=findNow_rep hkv es cs (i+1) (by simpa using hl) (fun j h1 h2=>by
     have:=hr (j+1) (by simpa using h1) (by simpa using h2)
     simp only [List.getElem_cons_succ] at this
     exact this) r h
    have e1:Instr.findNow d v (c :: cs) i=Instr.findNow d v cs (i+1):=by
     conv=>lhs;unfold Instr.findNow
     rw [hn]
    cases r with
    | none=>simp only at ih ⊢;rw [e1];exact ih
    | some q=>
     obtain ⟨j,p⟩:=q
     obtain ⟨u,g1,g2,g3,g4,g5⟩:=ih
     refine ⟨u,by rw [e1];exact g1,g2,by omega,?_⟩
     have hj:j - i=j - (i+1)+1:=by omega
     refine ⟨by rw [hj];simpa using g4,?_⟩
     simp only [hj,List.getElem_cons_succ]
     exact g5
  · cases h
theorem run_checkKey {kt:TypeId} {d:TypeDesc} (hd:C.P.underlying kt=some d) (hk:keyD d=true) (b:Bool) (v:Value):(Instr.checkKey b 10000 kt v).run C.P w=.ok () w:=by
 unfold keyD at hk
 unfold Instr.checkKey
 simp only [Sem.run_bind,run_underlying' hd,Result.andThen_ok]
 split at hk
 · rfl
 · rfl
 · cases hk
theorem mapAt_inv (h:Sim C D B T S M n st a w) {x:Operand} {id:Nat} {es:List (PV×PV)} (hm:mapAt st.bx (opd C st.env x)=some (id,es)) :
 st.bx[id]?=some (.mp es)∧∃ b c k,M[id]?=some b∧a.eval x=.map (some b)∧w.heap[b]?=some (.map c k)∧c.size=es.length∧∀ i (h:i < es.length) (h':i < c.size),Rep S M es[i].1 c[i].key∧Rep S M es[i].2 c[i].val:=by
 have hx:=h.opd x
 unfold mapAt at hm
 split at hm
 · rename_i id' hv
   rw [hv] at hx
   obtain ⟨b,h1,h2⟩:=hx.mv_inv
   split at hm
   · rename_i es' hb
     injection hm with hm
     injection hm with e1 e2
     subst e1
     subst e2
     refine ⟨hb,?_⟩
     obtain ⟨b',h3,h4⟩:=h.boxes _ _ hb
     rw [h1] at h3
     injection h3 with h3
     subst h3
     cases h4 with
     | mp es b c k hh l hr=>exact ⟨b,c,k,h1,h2,hh,l,hr⟩
   · cases hm
 · cases hm
theorem step_makeMap (h:Sim C D B T S M n st a w) {o:Oper} (hd:∀ k,o.dst=some k->k < n) {al:List (Nat×Loc)} (hal:AlOK M a w al) {t:TypeId} (ho:o.op=.makeMap t none) :
 StepTo C D B T S M n a w o (.next ((St.mk st.env (st.bx++[.mp []])).put o.dst (.mv st.bx.length)) (killT al o.dst)):=by
 intro K Q hK
 have hv:(execOp a.eval o).run C.P w=.ok (.value (.map (some w.heap.size))) (w.alloc (.map #[] 0)):=by
  rw [execOp,ho]
  simp only [Instr.makeMap,Option.map_none,Sem.run_bind,run_newObj,Sem.run_pure,Result.andThen_ok]
  rfl
 have hpre:∀ (id b:Nat),M[id]?=some b->(M++[w.heap.size])[id]?=some b:=fun id b hb=>prefix_get (List.prefix_append _ _) id b hb
 have hs:=h.newBox (.map #[] 0) (.mp []) (.mp [] _ #[] 0 (heap_alloc_new w _) rfl (fun i hi=>by simp at hi)) (fun t' cs' he=>by cases he)
 refine upon_of_value hv (hK S (M++[w.heap.size]) _ _ (hs.put o.dst hd (.mv _ w.heap.size ?_) (fun e xs=>by simp)) (grows_alloc h _) (List.prefix_append _ _) ?_)
 · rw [List.getElem?_append_right (by rw [h.mlen];omega),h.mlen];simp
 · exact hal.put h.size hd _ hpre (fun b hb=>heap_alloc_old w _ b (h.mlt hb))
theorem step_lookup (h:Sim C D B T S M n st a w) {o:Oper} (hd:∀ k,o.dst=some k->k < n) {al:List (Nat×Loc)} (hal:AlOK M a w al) {t:TypeId} {x i:Operand} {ok:Bool} (ho:o.op=.lookup t x i ok) {p:PV}
 (hp:lookupP C st.bx t (opd C st.env x) (opd C st.env i) ok=some p):StepTo C D B T S M n a w o (.next (st.put o.dst p) (killT al o.dst)):=by
 have key:∃ v,(execOp a.eval o).run C.P w=.ok (.value v) w∧Rep S M p v∧∀ e xs,p≠.osl e xs:=by
  unfold lookupP at hp
  split at hp
  · rename_i kt et ht
    split at hp
    · rename_i d id es hkd hmap
      split at hp
      · rename_i hkey
        obtain ⟨hb,b,c,k,hm,hx,hh,hl,hr⟩:=mapAt_inv h hmap
        have hres:∀ (v:Value) (q:PV) (bb:Bool),Rep S M q v->Rep S M (if ok then .tup [q.ro,.bool bb] else q.ro) (if ok then .tuple #[v,.bool bb] else v):=by
         intro v q bb hq
         cases ok with
         | false=>exact hq.ro
         | true=>
          refine .tup _ _ rfl (fun j h1 h2=>?_)
          match j,h1 with
          | 0,_=>exact hq.ro
          | 1,_=>exact .bool bb
        have hno:∀ (q:PV) (bb:Bool) e xs,(if ok then PV.tup [q.ro,.bool bb] else q.ro)≠.osl e xs:=by
         intro q bb e xs
         cases ok with
         | false=>exact ro_not_osl q e xs
         | true=>simp
        have hrun:∀ (r:Option (Nat×Value)),Instr.findNow d (a.eval i) c.toList 0=some r->(Instr.findKey kt (a.eval i) c.toList).run C.P w=.ok r w:=by
         intro r hr
         unfold Instr.findKey
         simp only [Sem.run_bind,run_underlying' hkd,Result.andThen_ok,hr,Sem.run_pure]
        have hfn:=findNow_rep (S:=S) (M:=M) (d:=d) (h.opd i) es c.toList 0 (by simp [hl]) (fun j h1 h2=>by simpa using hr j h1 (by simpa using h2))
        cases hf:findP d (opd C st.env i) es 0 with
        | none=>rw [hf] at hp;cases hp
        | some r=>
         have hfr:=hfn r hf
         rw [hf] at hp
         cases r with
         | none=>
          simp only at hp hfr
          obtain ⟨z,hz,rfl⟩:=Option.map_eq_some_iff.1 hp
          obtain ⟨inf,zv,hi,hzv,rfl⟩:=tZero_some hz
          refine ⟨if ok then .tuple #[zv,.bool false] else zv,?_,hres zv _ false (.cval zv),hno _ _⟩
          rw [execOp,ho]
          simp only [Instr.lookup,Sem.run_bind,run_underlying' ht,Result.andThen_ok,hx,getObj,Sem.run,hh,run_checkKey hkd hkey,hrun none hfr,zeroValue,typeInfo,hi,hzv,run_program,Sem.run_pure]
         | some q=>
          obtain ⟨j,q⟩:=q
          simp only at hp hfr
          obtain ⟨u,g1,g2,_⟩:=hfr
          injection hp with hp
          subst hp
          refine ⟨if ok then .tuple #[u,.bool true] else u,?_,hres u q true g2,hno _ _⟩
          rw [execOp,ho]
          simp only [Instr.lookup,Sem.run_bind,run_underlying' ht,Result.andThen_ok,hx,getObj,Sem.run,hh,run_checkKey hkd hkey,hrun _ g1,Sem.run_pure]
      · cases hp
    · cases hp
  · cases hp
 obtain ⟨v,hv,hrep,hno⟩:=key
 intro K Q hK
 exact upon_of_value hv (hK S M _ w (h.put o.dst hd hrep hno) (Grows.refl _ _ _ _) (List.prefix_refl _) (hal.put h.size hd _ (fun _ _ x=>x) (fun _ _=>rfl)))
theorem step_mapUpdate (h:Sim C D B T S M n st a w) {o:Oper} (hd:∀ k,o.dst=some k->k < n) {al:List (Nat×Loc)} (hal:AlOK M a w al) {t:TypeId} {m k v:Operand} (ho:o.op=.mapUpdate t m k v) {bx:List PBox}
 (hp:updateP C st.bx t (opd C st.env m) (opd C st.env k).shutV (opd C st.env v).shutV=some bx) :
 StepTo C D B T S M n a w o (.next ((St.mk st.env bx).put o.dst und) (killT (al.filter fun p=>match p.2 with | .box _ _=>false | _=>true) o.dst)):=by
 have hkr:=(h.opd k).shutV
 have hvr:=(h.opd v).shutV
 generalize (opd C st.env k).shutV=kp at *
 generalize (opd C st.env v).shutV=vp at *
 have key:∃ w',(execOp a.eval o).run C.P w=.ok .skip w'∧Sim C D B T S M n ⟨st.env,bx⟩ a w'∧Grows B T S w S w':=by
  unfold updateP at hp
  split at hp
  · rename_i kt et ht
    split at hp
    · rename_i d id es hkd hmap
      split at hp
      · rename_i hkey
        obtain ⟨hb,b,c,ck,hm,hx,hh,hl,hr⟩:=mapAt_inv h hmap
        have hid:id < st.bx.length:=(List.getElem?_eq_some_iff.1 hb).1
        have hlt:=(Array.getElem?_eq_some_iff.1 hh).1
        have hrun:∀ (r:Option (Nat×Value)),Instr.findNow d (a.eval k) c.toList 0=some r->(Instr.findKey kt (a.eval k) c.toList).run C.P w=.ok r w:=by
         intro r hr
         unfold Instr.findKey
         simp only [Sem.run_bind,run_underlying' hkd,Result.andThen_ok,hr,Sem.run_pure]
        have hfn:=findNow_rep (S:=S) (M:=M) (d:=d) hkr es c.toList 0 (by simp [hl]) (fun j h1 h2=>by simpa using hr j h1 (by simpa using h2))
        cases hf:findP d kp es 0 with
        | none=>rw [hf] at hp;cases hp
        | some r=>
         have hfr:=hfn r hf
         rw [hf] at hp
         cases r with
         | none=>
          simp only at hp hfr
          injection hp with hp
          subst hp
          let w':World:={ w with heap:=w.heap.setIfInBounds b (.map (c.push { key:=a.eval k,val:=a.eval v,born:=ck }) (ck+1)) }
          have hother:∀ j,j≠b->w'.heap[j]?=w.heap[j]?:=fun j hj=>by simp [w',Ne.symm hj]
          have hself:w'.heap[b]?=some (.map (c.push { key:=a.eval k,val:=a.eval v,born:=ck }) (ck+1)):=by simp [w',hlt]
          obtain ⟨hs,hg⟩:=h.setBoxObj (x:=.mp (es++[(kp,vp)])) (w':=w') hm hid (.mp _ b _ _ hself (by simp [hl]) (fun i h1 h2=>by
           by_cases hi:i < es.length
           · have:=hr i hi (by omega)
             simp only [List.getElem_append_left hi]
             rw [Array.getElem_push_lt (by omega)]
             exact this
           · have hi2:i=es.length:=by simp at h1;omega
             subst hi2
             have e1:(es++[(kp,vp)])[es.length]'h1=(kp,vp):=by simp
             have e2:(c.push { key:=a.eval k,val:=a.eval v,born:=ck })[es.length]'h2={ key:=a.eval k,val:=a.eval v,born:=ck }:=by simp [<- hl]
             rw [e1,e2]
             exact ⟨hkr,hvr⟩)) rfl rfl rfl (by simp [w']) hother (fun t' cs' off e xs v' hx=>by cases hx)
          refine ⟨w',?_,hs,hg⟩
          rw [execOp,ho]
          simp only [Instr.mapUpdate,Sem.run_bind,run_underlying' ht,Result.andThen_ok,hx,getObj,setObj,Sem.run,hh,run_checkKey hkd hkey,hrun none hfr]
          rfl
         | some q=>
          obtain ⟨j,q⟩:=q
          simp only at hp hfr
          obtain ⟨u,g1,g2,_,g4,g5⟩:=hfr
          injection hp with hp
          subst hp
          have hjl:j < c.size:=by simpa using g4
          have hcj:c[j]?=some c[j]:=Array.getElem?_eq_getElem hjl
          have hbits:Instr.sameBits 10000 c[j].key (a.eval k)=true:=by
           refine sameBits_of hkey ?_
           simpa using g5
          let w':World:={ w with heap:=w.heap.setIfInBounds b (.map (c.modify j fun e=>{ e with key:=a.eval k,val:=a.eval v }) ck) }
          have hother:∀ i,i≠b->w'.heap[i]?=w.heap[i]?:=fun i hi=>by simp [w',Ne.symm hi]
          have hself:w'.heap[b]?=some (.map (c.modify j fun e=>{ e with key:=a.eval k,val:=a.eval v }) ck):=by simp [w',hlt]
          obtain ⟨hs,hg⟩:=h.setBoxObj (x:=.mp (setE es j kp vp)) (w':=w') hm hid (.mp _ b _ _ hself (by simp [hl,setE]) (fun i h1 h2=>by
           unfold setE at h1 ⊢
           simp only [List.length_set] at h1
           rw [Array.getElem_modify,List.getElem_set]
           by_cases hi:j=i
           · rw [if_pos hi,if_pos hi]
             exact ⟨hkr,hvr⟩
           · rw [if_neg hi,if_neg hi]
             exact hr i h1 (by omega))) rfl rfl rfl (by simp [w']) hother (fun t' cs' off e xs v' hx=>by cases hx)
          refine ⟨w',?_,hs,hg⟩
          rw [execOp,ho]
          simp only [Instr.mapUpdate,Sem.run_bind,run_underlying' ht,Result.andThen_ok,hx,getObj,setObj,Sem.run,hh,run_checkKey hkd hkey,hrun _ g1,hcj,Option.map_some,Option.getD_some,Instr.keyThatStays,hbits,if_true,Sem.run_pure]
          rfl
      · cases hp
    · cases hp
  · cases hp
 obtain ⟨w',hrun,hs,hg⟩:=key
 intro K Q hK
 unfold Oper.wp
 rw [hrun]
 refine hK S M _ _ (hs.put o.dst hd (.und S M) (fun e xs=>by simp [und])) hg (List.prefix_refl _) ?_
 intro p hpm
 obtain ⟨m1,m2⟩:=killT_mem hpm
 simp only [List.mem_filter] at m1
 obtain ⟨m3,m4⟩:=m1
 have hc:=hal p m3
 obtain ⟨d',l⟩:=p
 cases l with
 | tmp t=>
  simp only [ConcEq] at hc ⊢
  rw [put_get h.size hd _ (fun k hk=>(m2 k hk).1),put_get h.size hd _ (fun k hk=>by simpa using (m2 k hk).2)]
  exact hc
 | box id' off'=>simp at m4
theorem stepOp_sound (h:Sim C D B T S M n st a w) {o:Oper} (hd:∀ k,o.dst=some k->k < n) {al:List (Nat×Loc)} (hal:AlOK M a w al) {call:CallT} (hcall:CallSound C call) (draw:Bool) {r:OpR}
 (hr:stepOp C call draw al o st=some r):StepTo C D B T S M n a w o r:=by
 have hr':=hr
 unfold stepOp at hr
 split at hr
 · rename_i x ho;exact step_assign h hd hal draw ho hr'
 · rename_i t ho
   split at hr
   · rename_i z hz
     split at hr
     · rename_i h1
       injection hr with hr;subst hr
       exact step_alloc h hd hal ho hz h1
     · cases hr
   · cases hr
 · rename_i t x ho
   simp only at hr
   split at hr
   · rename_i h1
     injection hr with hr;subst hr
     exact step_box h hd hal ho h1
   · cases hr
 · rename_i t ad x ho;exact step_store h hd hal draw ho hr'
 · rename_i t len parts ho
   split at hr
   · rename_i v hv
     injection hr with hr;subst hr
     exact step_buildSlice h hd hal ho hv
   · cases hr
 · rename_i t l c ho
   split at hr
   · rename_i v hv
     injection hr with hr;subst hr
     exact step_makeSlice h hd hal ho hv
   · cases hr
 · rename_i t x ho
   split at hr
   · rename_i s ht hs
     injection hr with hr;subst hr
     exact step_range h hd hal ho ht hs
   · cases hr
 · rename_i x ho;exact step_next h hd hal draw ho hr'
 · rename_i x ho;exact step_panic h draw ho hr'
 · rename_i args argTypes ho;exact step_append h hd hal ho hr
 · rename_i args argTypes ho;exact step_copy h hd ho hr
 · rename_i f args argTypes ho;exact step_call h hd hal hcall ho draw hr'
 · rename_i t ho
   injection hr with hr;subst hr
   exact step_makeMap h hd hal ho
 · rename_i t x i ok ho
   split at hr
   · rename_i v hv
     injection hr with hr;subst hr
     exact step_lookup h hd hal ho hv
   · cases hr
 · rename_i t m k v ho
   split at hr
   · rename_i bx hv
     injection hr with hr;subst hr
     exact step_mapUpdate h hd hal ho hv
   · cases hr
 · split at hr
   · rename_i v hv
     injection hr with hr;subst hr
     exact step_pure h hd hal draw hv
   · cases hr
theorem wantP_some (h:Sim C D B T S M n st a w) {ops:Array Oper} {o:Oper} {b:Bool} (hw:wantP ops st.env o=some b):Region.wanted o (yielded ops a.tmps)=b:=by
 unfold wantP at hw
 unfold Region.wanted
 split at hw
 · rename_i hg;rw [hg];injection hw
 · rename_i j want hg
   rw [hg]
   simp only
   split at hw
   · rename_i d hd
     have he:=h.env d
     have hget:a.tmps[d]?=some (a.tmps.getD d undef)∨(a.tmps[d]?=none∧a.tmps.getD d undef=undef):=by
      rcases Nat.lt_or_ge d a.tmps.size with hlt | hge
      · left;simp [Array.getD,hlt]
      · right;exact ⟨Array.getElem?_eq_none hge,by simp [Array.getD,Nat.not_lt.2 hge]⟩
     split at hw
     · rename_i bb hb
       rw [hb] at he
       have hv:=he.bool_inv
       injection hw with hw
       subst hw
       rcases hget with hg' | ⟨_,hg'⟩
       · have hy:yielded ops a.tmps j=some bb:=by simp only [yielded,hd,Option.bind_some,hg',hv]
         rw [hy]
         cases bb <;> cases want <;> rfl
       · rw [hv] at hg';cases hg'
     · rename_i vs hb
       rw [hb] at he
       obtain ⟨us,hv,_⟩:=he.tup_inv
       injection hw with hw
       subst hw
       have hy:yielded ops a.tmps j=none:=by
        rcases hget with hg' | ⟨hg',_⟩
        · simp only [yielded,hd,Option.bind_some,hg',hv]
        · simp only [yielded,hd,Option.bind_some,hg']
       rw [hy]
       cases want <;> rfl
     · cases hw
   · cases hw
def Ends (C:Cfg) (D:List Deferred) (B:Nat) (T:Nat->Prop) (S:Store) (M:List Nat) (n:Nat) (w:World) (ex:Ex) (st':St) (Q:Exit->Act->World->Prop):Prop:=
 match ex with
 | .normal=>∀ S' M' a' w',Sim C D B T S' M' n st' a' w'->Grows B T S w S' w'->M <+: M'->Q .normal a' w'
 | .exit id=>∀ S' M' a' w',Sim C D B T S' M' n st' a' w'->Grows B T S w S' w'->M <+: M'->Q (.exit id) a' w'
 | .ret=>∀ S' M' a' w',Sim C D B T S' M' n st' a' w'->Grows B T S w S' w'->M <+: M'->Q .ret a' w'
 | .pan p=>∀ S' M' a' w' x v e',(st'.env=[]∨e'=st'.env)->Sim C D B T S' M' n ⟨e',st'.bx⟩ a' w'->Grows B T S w S' w'->M <+: M'->Rep S' M' p v->x=[{ v,recovered:=false }]->Q (.panic x) a' w'
theorem Ends.of_grows {S':Store} {M':List Nat} {w':World} {ex:Ex} {st':St} {Q:Exit->Act->World->Prop} (h:Ends C D B T S M n w ex st' Q) (g:Grows B T S w S' w') (p:M <+: M'):Ends C D B T S' M' n w' ex st' Q:=by
 cases ex with
 | normal=>exact fun S2 M2 a2 w2 hs hg hp=>h S2 M2 a2 w2 hs (g.trans hg) (p.trans hp)
 | exit id=>exact fun S2 M2 a2 w2 hs hg hp=>h S2 M2 a2 w2 hs (g.trans hg) (p.trans hp)
 | ret=>exact fun S2 M2 a2 w2 hs hg hp=>h S2 M2 a2 w2 hs (g.trans hg) (p.trans hp)
 | pan _=>exact fun S2 M2 a2 w2 x v e2 he hs hg hp=>h S2 M2 a2 w2 x v e2 he hs (g.trans hg) (p.trans hp)
theorem evOps_sound {call:CallT} (hcall:CallSound C call) (draw:Bool) (ops:Array Oper) {ex:Ex} {st':St} {Q:Exit->Act->World->Prop}:∀ (l:List Oper) (al:List (Nat×Loc)) (st:St) (S:Store) (M:List Nat) (a:Act) (w:World),
 (∀ o ∈ l,∀ k,o.dst=some k->k < n)->Sim C D B T S M n st a w->AlOK M a w al->evOps C call draw ops l al st=some (ex,st')->Ends C D B T S M n w ex st' Q->wpList C.P ops Q l a w
 | [],al,st,S,M,a,w,_,h,_,he,hq=>by
  simp only [evOps,Option.some.injEq,Prod.mk.injEq] at he
  obtain ⟨rfl,rfl⟩:=he
  exact wpList_nil (hq S M a w h (Grows.refl _ _ _ _) (List.prefix_refl _))
 | o :: rest,al,st,S,M,a,w,hd,h,hal,he,hq=>by
  unfold evOps at he
  split at he
  · cases he
  · rename_i hw
    have hwant:=wantP_some h hw
    refine wpList_step fun K hK=>?_
    rw [hwant]
    simp only [Bool.false_eq_true,if_false]
    exact hK _ _ (evOps_sound hcall draw ops rest _ _ S M _ w (fun o' ho'=>hd o' (by simp [ho'])) (h.put o.dst (hd o (by simp)) (.und S M) (fun e xs=>by simp [und])) (hal.put h.size (hd o (by simp)) _ (fun _ _ x=>x) (fun _ _=>rfl)) he hq)
  · rename_i hw
    have hwant:=wantP_some h hw
    refine wpList_step fun K hK=>?_
    rw [hwant]
    simp only [if_true]
    split at he
    · cases he
    · rename_i st1 al1 hs
      refine stepOp_sound h (hd o (by simp)) hal hcall draw hs K Q ?_
      intro S1 M1 a1 w1 h1 g1 p1 hal1
      exact hK _ _ (evOps_sound hcall draw ops rest _ _ S1 M1 a1 w1 (fun o' ho'=>hd o' (by simp [ho'])) h1 hal1 he (hq.of_grows g1 p1))
    · rename_i v st1 hs
      injection he with he
      injection he with e1 e2
      subst e1
      subst e2
      exact stepOp_sound h (hd o (by simp)) hal hcall draw hs K Q (fun S' M' a' w' x u hs' hg hp hr hx=>hq S' M' a' w' x u _ (.inr rfl) hs' hg hp hr hx)
end
end Go.HH
