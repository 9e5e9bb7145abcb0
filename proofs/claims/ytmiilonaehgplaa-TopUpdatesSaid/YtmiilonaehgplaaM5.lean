/-
  What the law needs, packed: Sim.
-/
import Derived.Test.YtmiilonaehgplaaM4
namespace Go.HH
open Go Go.RowKit
def OwnAt (P:Program) (S:Store) (M:List Nat) (w:World) (e:TypeId) (xs:List PV) (v:Value):Prop:=
 ∃ i vals,P.info? e=some i∧w.ownsRow 0 e i.size v xs.length vals∧(∀ x ∈ xs,x.cells.length=i.size) ∧
  ∀ g,v.ownBlock=some g->g ∉ M∧∀ j,xs.length * i.size<=j->S g j=none
inductive BoxAt (S:Store) (M:List Nat) (w:World):PBox->Nat->Prop
 | cells (e:TypeId) (cs:List PV) (b:Nat) (c:Array Value) (h:w.heap[b]?=some (.cells c e (0,0))) (l:cs.length<=c.size)
  (h1:∀ i (h:i < c.size),i < cs.length->(c[i]).oneCell'=true) (hr:∀ i (h:i < cs.length) (h':i < c.size),Rep S M cs[i] c[i]):BoxAt S M w (.cells e cs) b
 | mp (es:List (PV×PV)) (b:Nat) (c:Array MapEntry) (k:Nat) (h:w.heap[b]?=some (.map c k)) (l:c.size=es.length) (hr:∀ i (h:i < es.length) (h':i < c.size),Rep S M es[i].1 c[i].key∧Rep S M es[i].2 c[i].val):BoxAt S M w (.mp es) b
 | iter (s:List UInt8) (pos b:Nat) (h:w.heap[b]?=some (.stringIter ⟨s.toArray⟩ pos)):BoxAt S M w (.iter s pos) b
def LocAt (st:St) (M:List Nat) (a:Act) (w:World):Loc->PV->Value->Prop
 | .tmp t,p,v=>getT st.env t=p∧a.tmps.getD t undef=v
 | .box id off,p,v=>∃ cs b,boxCells st.bx id=some cs∧cs[off]?=some p∧M[id]?=some b∧w.cell? ⟨b,off,none⟩=some v
def GW (C:Cfg) (B:Nat) (T:Nat->Prop) (w:World):Prop:=
 ∀ g cs,C.glob g=some cs->g < B∧¬ T g∧∃ c e f,w.heap[g]?=some (.cells c e f)∧c.size=cs.length
theorem GW.keep {C:Cfg} {B:Nat} {T:Nat->Prop} {w w':World} (h:GW C B T w) (hb:∀ k,k < B->¬ T k->w'.heap[k]?=w.heap[k]?):GW C B T w':=fun g cs hg=>by
 obtain ⟨h1,h2,h3⟩:=h g cs hg
 exact ⟨h1,h2,by rw [hb g h1 h2];exact h3⟩
structure Sim (C:Cfg) (D:List Deferred) (B:Nat) (T:Nat->Prop) (S:Store) (M:List Nat) (n:Nat) (st:St) (a:Act) (w:World):Prop where
 holds:∀ b o v,S b o=some v->w.cell? ⟨b,o,none⟩=some v
 glob:∀ g cs,C.glob g=some cs->Rep S [] (.ip cs) (.pointer (some ⟨g,0,none⟩))
 gw:GW C B T w
 size:a.tmps.size=n
 dfr:a.defers=D
 env:∀ t,Rep S M (getT st.env t) (a.tmps.getD t undef)
 mlen:M.length=st.bx.length
 boxes:∀ (id:Nat) bx,st.bx[id]?=some bx->∃ b,M[id]?=some b∧BoxAt S M w bx b
 nodup:M.Nodup
 mS:∀ b,b ∈ M->∀ o,S b o=none
 mT:∀ b,b ∈ M->B<=b∨T b
 hB:B<=w.heap.size
 own:∀ l e xs v,LocAt st M a w l (.osl e xs) v->OwnAt C.P S M w e xs v∧(∀ g,v.ownBlock=some g->B<=g∨T g)
 apart:∀ l l' e e' xs xs' v v' g,LocAt st M a w l (.osl e xs) v->LocAt st M a w l' (.osl e' xs') v'->v.ownBlock=some g->v'.ownBlock=some g->l=l'
structure Grows (B:Nat) (T:Nat->Prop) (S:Store) (w:World) (S':Store) (w':World):Prop where
 os:w'.os=w.os
 tape:w'.tape=w.tape
 output:w'.output=w.output
 size:w.heap.size<=w'.heap.size
 block:∀ k,k < B->¬ T k->w'.heap[k]?=w.heap[k]?
 store:S.le S'
 same:∀ k,k < B->¬ T k->∀ o,S' k o=S k o
theorem Grows.refl (B:Nat) (T:Nat->Prop) (S:Store) (w:World):Grows B T S w S w:=
 ⟨rfl,rfl,rfl,Nat.le_refl _,fun _ _ _=>rfl,Store.le.refl _,fun _ _ _ _=>rfl⟩
theorem Grows.trans {B:Nat} {T:Nat->Prop} {S S' S'':Store} {w w' w'':World} (h:Grows B T S w S' w') (k:Grows B T S' w' S'' w''):Grows B T S w S'' w'':=
 ⟨k.os.trans h.os,k.tape.trans h.tape,k.output.trans h.output,Nat.le_trans h.size k.size,fun i a b=>(k.block i a b).trans (h.block i a b),
  h.store.trans k.store,fun i a b o=>(k.same i a b o).trans (h.same i a b o)⟩
section
variable {C:Cfg} {D:List Deferred} {B:Nat} {T:Nat->Prop} {S:Store} {M:List Nat} {n:Nat} {st:St} {a:Act} {w:World}
theorem Rep.cval1 (v:Value):Rep S M (cval1 v) v:=by
 unfold HH.cval1
 split
 · exact .bool _
 · exact .int _ _
 · rename_i s;have:=Rep.str (S:=S) (M:=M) s.data.toList;simpa using this
 · exact .nils
 · exact .nilp
 · exact .nilf
 · exact .nili
 · exact .top _
theorem Rep.cval (v:Value):Rep S M (cval v) v:=by
 unfold HH.cval
 split
 · rename_i cs
   split
   · rename_i h
     refine .agg _ cs (by simp) (fun i hi=>?_) (fun i hi hi'=>?_)
     · rw [List.all_eq_true] at h
       exact h _ (by simp)
     · simp only [List.getElem_map,Array.getElem_toList]
       exact .cval1 _
   · exact .top _
 · exact .cval1 _
theorem Sim.raw (h:Sim C D B T S M n st a w) (x:Operand):Rep S M (raw C st.env x) (a.eval x):=by
 cases x with
 | tmp t=>exact h.env t
 | const v=>exact .cval v
 | global g=>
  simp only [HH.raw,Act.eval]
  split
  · rename_i cs hg;exact (h.glob g cs hg).mono (Store.le.refl _) (fun id b h=>by simp at h)
  · exact .top _
 | func f=>exact .fn f [] [] #[] #[] rfl rfl (fun i h=>by simp at h) (fun i h=>by simp at h)
theorem Sim.opd (h:Sim C D B T S M n st a w) (x:Operand):Rep S M (opd C st.env x) (a.eval x):=(h.raw x).ro
theorem opd_not_osl (e:List PV) (x:Operand) (t:TypeId) (xs:List PV):opd C e x≠.osl t xs:=by
 unfold HH.opd PV.ro
 split <;> simp_all
theorem Rep.ip_cells {cs:List PV} {v:Value} (h:Rep S M (.ip cs) v):∃ b o,v=.pointer (some ⟨b,o,none⟩)∧∃ f:Nat->Value,
 (∀ i,i < cs.length->S b (o+i)=some (f i))∧(∀ i,i < cs.length->(f i).oneCell'=true)∧∀ i (h:i < cs.length),Rep S M cs[i] (f i):=by
 cases h with
 | ip cs b o f hs h1 hr=>exact ⟨b,o,rfl,f,hs,h1,hr⟩
theorem Rep.bp_inv {id off:Nat} {v:Value} (h:Rep S M (.bp id off) v):∃ b,M[id]?=some b∧v=.pointer (some ⟨b,off,none⟩):=by
 cases h with
 | bp id off b h=>exact ⟨b,h,rfl⟩
theorem Rep.rs_inv {id len:Nat} {v:Value} (h:Rep S M (.rs id len) v):∃ b cap,M[id]?=some b∧len<=cap∧v=.slice (some ⟨b,0,none⟩) len cap:=by
 cases h with
 | rs id len b cap h hc=>exact ⟨b,cap,h,hc,rfl⟩
theorem Rep.mv_inv {id:Nat} {v:Value} (h:Rep S M (.mv id) v):∃ b,M[id]?=some b∧v=.map (some b):=by
 cases h with
 | mv id b h=>exact ⟨b,h,rfl⟩
theorem Rep.int_inv {k:IntKind} {m:Int} {v:Value} (h:Rep S M (.int k m) v):v=.int k m:=by cases h;rfl
theorem Rep.bool_inv {m:Bool} {v:Value} (h:Rep S M (.bool m) v):v=.bool m:=by cases h;rfl
theorem Rep.str_inv {m:List UInt8} {v:Value} (h:Rep S M (.str m) v):v=.string ⟨m.toArray⟩:=by cases h;rfl
theorem Rep.nils_inv {v:Value} (h:Rep S M .nils v):v=.slice none 0 0:=by cases h;rfl
theorem Rep.nilp_inv {v:Value} (h:Rep S M .nilp v):v=.pointer none:=by cases h;rfl
theorem Rep.agg_inv {cs:List PV} {v:Value} (h:Rep S M (.agg cs) v):∃ vs:Array Value,v=.agg vs∧vs.size=cs.length∧(∀ i (h:i < vs.size),(vs[i]).oneCell'=true) ∧
 ∀ i (h:i < cs.length) (h':i < vs.size),Rep S M (cs[i]) (vs[i]):=by
 cases h with
 | agg cs vs l h1 hr=>exact ⟨vs,rfl,l,h1,hr⟩
theorem Rep.tup_inv {cs:List PV} {v:Value} (h:Rep S M (.tup cs) v):∃ vs:Array Value,v=.tuple vs∧vs.size=cs.length ∧
 ∀ i (h:i < cs.length) (h':i < vs.size),Rep S M (cs[i]) (vs[i]):=by
 cases h with
 | tup cs vs l hr=>exact ⟨vs,rfl,l,hr⟩
theorem Rep.fn_inv {f:FuncId} {x y:List PV} {v:Value} (h:Rep S M (.fn f x y) v):∃ va vc:Array Value,v=.func (.func f) va vc∧RepL S M x va.toList∧RepL S M y vc.toList:=by
 cases h with
 | fn f a c va vc la lc ha hc=>exact ⟨va,vc,rfl,⟨by simp [la],fun i h h'=>by simpa using ha i h (by simpa using h')⟩,⟨by simp [lc],fun i h h'=>by simpa using hc i h (by simpa using h')⟩⟩
theorem Rep.elems_inv {p:PV} {xs:List PV} {v:Value} (h:Rep S M p v) (he:elemsOf p=some xs):∃ ad cap,v=.slice ad xs.length cap∧xs.length<=cap ∧
 (xs=[]∨∃ b o,ad=some ⟨b,o,none⟩∧(∃ sz,∀ x ∈ xs,x.cells.length=sz)∧∃ f:Nat->Value,(∀ i,i < (flat xs).length->S b (o+i)=some (f i))∧(∀ i,i < (flat xs).length->(f i).oneCell'=true) ∧
  ∀ i (h:i < (flat xs).length),Rep S M ((flat xs)[i]) (f i)):=by
 have key:∀ {q:PV} {v:Value},Rep S M q v->q=.sl xs->∃ ad cap,v=.slice ad xs.length cap∧xs.length<=cap ∧
  (xs=[]∨∃ b o,ad=some ⟨b,o,none⟩∧(∃ sz,∀ x ∈ xs,x.cells.length=sz)∧∃ f:Nat->Value,(∀ i,i < (flat xs).length->S b (o+i)=some (f i))∧(∀ i,i < (flat xs).length->(f i).oneCell'=true) ∧
   ∀ i (h:i < (flat xs).length),Rep S M ((flat xs)[i]) (f i)):=by
  intro q v hq e
  cases hq <;> (try cases e)
  · exact ⟨_,_,rfl,Nat.zero_le _,.inl rfl⟩
  · exact ⟨_,_,rfl,by assumption,.inr ⟨_,_,rfl,by assumption,_,by assumption,by assumption,by assumption⟩⟩
 cases p <;> simp [elemsOf] at he
 · subst he;cases h;exact ⟨none,0,rfl,Nat.le_refl _,.inl rfl⟩
 · subst he;exact key h rfl
 · subst he;cases h with | osl e xs v h=>exact key h rfl
theorem Rep.ip_drop {cs:List PV} {b o:Nat} {f:Nat->Value} (k:Nat)
 (hs:∀ i,i < cs.length->S b (o+i)=some (f i)) (h1:∀ i,i < cs.length->(f i).oneCell'=true) (hr:∀ i (h:i < cs.length),Rep S M cs[i] (f i)) :
 Rep S M (.ip (cs.drop k)) (.pointer (some ⟨b,o+k,none⟩)):=by
 refine .ip _ b (o+k) (fun i=>f (k+i)) (fun i hi=>?_) (fun i hi=>?_) (fun i hi=>?_)
 · rw [Nat.add_assoc];exact hs _ (by simp at hi;omega)
 · exact h1 _ (by simp at hi;omega)
 · rw [List.getElem_drop];exact hr _ (by simp at hi;omega)
theorem tSize_some {t:TypeId} {k:Nat} (h:tSize C t=some k):∃ i,C.P.info? t=some i∧i.size=k:=by
 unfold HH.tSize at h
 cases hi:C.P.info? t with
 | none=>simp [hi] at h
 | some i=>exact ⟨i,rfl,by simpa [hi] using h⟩
theorem run_sizeOf' {t:TypeId} {i:TypeInfo} (h:C.P.info? t=some i) (w:World):(sizeOf t).run C.P w=.ok i.size w:=by
 simp [sizeOf,typeInfo,h]
theorem run_underlying' {t:TypeId} {d:TypeDesc} (h:C.P.underlying t=some d) (w:World):(underlying t).run C.P w=.ok d w:=by
 simp [underlying,h]
theorem run_isAgg' {t:TypeId} {d:TypeDesc} (h:C.P.underlying t=some d) (w:World):(isAgg t).run C.P w=.ok (tAgg C t) w:=by
 simp only [isAgg,Sem.run_bind,run_underlying' h,Result.andThen_ok,HH.tAgg,h]
 cases d <;> rfl
theorem add_none (b o k:Nat):(⟨b,o,none⟩:Addr).add k=⟨b,o+k,none⟩:=by
 unfold Addr.add;split <;> simp_all
theorem readCells_run {t:TypeId} {cs:List PV} {p:PV} (h:readCells C t cs=some p) {b o:Nat} {f:Nat->Value}
 (hs:∀ i,i < cs.length->w.cell? ⟨b,o+i,none⟩=some (f i)) (h1:∀ i,i < cs.length->(f i).oneCell'=true) (hr:∀ i (h:i < cs.length),Rep S M cs[i] (f i)) :
 ∃ v,(loadVar t ⟨b,o,none⟩).run C.P w=.ok v w∧Rep S M p v:=by
 unfold HH.readCells at h
 cases hd:C.P.underlying t with
 | none=>simp [hd] at h
 | some d=>
  simp only [hd] at h
  unfold loadVar
  simp only [Sem.run_bind,run_isAgg' hd,Result.andThen_ok]
  split at h
  · rename_i ht
    rw [if_pos ht]
    cases hz:tSize C t with
    | none=>simp [hz] at h
    | some k=>
     obtain ⟨i,hi,rfl⟩:=tSize_some hz
     simp only [hz] at h
     split at h
     · rename_i hle
       injection h with h
       subst h
       have hl:=run_loadCells (P:=C.P) w ⟨b,o,none⟩ i.size f (fun j hj=>by rw [add_none];exact hs j (by omega))
       refine ⟨.agg ((List.range i.size).map f).toArray,?_,?_⟩
       · simp only [Sem.run_bind,run_sizeOf' hi,Result.andThen_ok,hl,Sem.run_pure]
       · refine .agg _ _ (by simp;omega) (fun j hj=>?_) (fun j hj hj'=>?_)
         · simp at hj ⊢;exact h1 _ (by omega)
         · simp at hj hj' ⊢;exact (hr j (by omega)).ro
     · cases h
  · rename_i ht
    rw [if_neg ht]
    cases cs with
    | nil=>simp at h
    | cons c r=>
     simp only [List.head?_cons,Option.map_some,Option.some.injEq] at h
     subst h
     have h0:=hs 0 (by simp)
     simp only [Nat.add_zero] at h0
     exact ⟨f 0,by simp [h0],(hr 0 (by simp)).ro⟩
theorem BoxAt.get {id:Nat} {cs:List PV} (h:Sim C D B T S M n st a w) (hb:boxCells st.bx id=some cs) :
 ∃ b c e,M[id]?=some b∧w.heap[b]?=some (.cells c e (0,0))∧cs.length<=c.size∧(∀ i (h:i < c.size),i < cs.length->(c[i]).oneCell'=true) ∧
  ∀ i (h:i < cs.length) (h':i < c.size),Rep S M cs[i] c[i]:=by
 unfold boxCells at hb
 split at hb
 · rename_i cs' hg
   injection hb with hb
   subst hb
   obtain ⟨b,hm,hbox⟩:=h.boxes id _ hg
   cases hbox with
   | cells _ _ _ c hh l h1 hr=>exact ⟨b,c,_,hm,hh,l,h1,hr⟩
 · cases hb
theorem BoxAt.getT {id:Nat} {e:TypeId} {cs:List PV} (h:Sim C D B T S M n st a w) (hb:st.bx[id]?=some (.cells e cs)) :
 ∃ b c,M[id]?=some b∧w.heap[b]?=some (.cells c e (0,0))∧cs.length<=c.size∧(∀ i (h:i < c.size),i < cs.length->(c[i]).oneCell'=true) ∧
  ∀ i (h:i < cs.length) (h':i < c.size),Rep S M cs[i] c[i]:=by
 obtain ⟨b,hm,hbox⟩:=h.boxes id _ hb
 cases hbox with
 | cells _ _ _ c hh l h1 hr=>exact ⟨b,c,hm,hh,l,h1,hr⟩
theorem cell_of_heap {b:Nat} {c:Array Value} {e:TypeId} {fr:Nat×Nat} (h:w.heap[b]?=some (.cells c e fr)) (o:Nat):w.cell? ⟨b,o,none⟩=c[o]?:=by
 simp [World.cell?,h]
theorem loadP_run (h:Sim C D B T S M n st a w) {t:TypeId} {x:Operand} {p:PV} (hp:loadP C st.bx t (opd C st.env x)=some p) :
 ∃ v,(Instr.loadAt t (a.eval x)).run C.P w=.ok v w∧Rep S M p v:=by
 have hx:=h.opd x
 unfold loadP at hp
 split at hp
 · rename_i cs hcs
   rw [hcs] at hx
   obtain ⟨b,o,hv,f,hs,h1,hr⟩:=hx.ip_cells
   rw [hv]
   obtain ⟨v,hrun,hrep⟩:=readCells_run (w:=w) hp (b:=b) (o:=o) (f:=f) (fun i hi=>h.holds _ _ _ (hs i hi)) h1 hr
   exact ⟨v,by simpa [Instr.loadAt,Instr.sureAddr] using hrun,hrep⟩
 · rename_i id off hcs
   rw [hcs] at hx
   split at hp
   · rename_i cs hb
     obtain ⟨b,c,e,hm,hh,l,h1,hr⟩:=BoxAt.get h hb
     obtain ⟨b',hm',hv⟩:=hx.bp_inv
     rw [hm] at hm'
     injection hm' with hm'
     subst hm'
     · rw [hv]
       have key:∀ i,i < (cs.drop off).length->off+i < c.size:=fun i hi=>by simp at hi;omega
       obtain ⟨v,hrun,hrep⟩:=readCells_run (w:=w) (S:=S) (M:=M) hp (b:=b) (o:=off) (f:=fun i=>c.getD (off+i) undef)
        (fun i hi=>by rw [cell_of_heap hh];simp [Array.getD,key i hi])
        (fun i hi=>by simp only [Array.getD,key i hi,dif_pos];exact h1 _ (key i hi) (by simp at hi;omega))
        (fun i hi=>by
         simp only [Array.getD,key i hi,dif_pos,List.getElem_drop]
         exact hr _ (by simp at hi;omega) (key i hi))
       exact ⟨v,by simpa [Instr.loadAt,Instr.sureAddr] using hrun,hrep⟩
   · cases hp
 · cases hp
end
end Go.HH
