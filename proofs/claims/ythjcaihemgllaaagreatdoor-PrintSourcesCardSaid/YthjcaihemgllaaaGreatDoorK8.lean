/-
  What the law needs, packed: Pure3.
-/
import Derived.Laws.Tables
import Derived.Test.YthjcaihemgllaaaGreatDoorK7
open Go.Result renaming andThen_ok->Aau
open Array renaming getElem?_eq_getElem->Aav
open Go.Sem renaming run_bind->Aaw,run_pure->Ab2
open List renaming getElem?_eq_getElem->Aax,eq_nil_of_length_eq_zero->Aay,getElem?_append_left->Aaz,getElem_append_left->Ab0,getElem?_append_right->Ab5,getElem_append_right->Ab7,getElem?_eq_none->Ab8,getElem?_drop->Abb,append_assoc->Abd,foldlM_cons->Abf,foldlM_nil->Abg
open Option renaming map_eq_some_iff->Ab1,bind_eq_some_iff->Ab6,pure_def->Abc
open Go.Instr renaming indexAt->Ab3,index->Ab9,sureAddr->Abh,fill->Abk
open Go.Builtin renaming len_->Ab4,min2->Abi,max2->Abj
open ByteArray renaming size->Aba
open Go.Program renaming built->Abe
namespace Go.HH
open Go Go.RowKit
section
variable {C:Cfg} {D:List Deferred} {B:Nat} {T:Nat->Prop} {S:AJ} {M:List Nat} {n:Nat} {st:St} {a:Act} {w:World}
theorem Q4 {t:TypeId} {x i:PV} {vx vi:Value} {p:PV} (h:EL C t x i=some p) (hx:Rep S M x vx) (hi:Rep S M i vi) :
 ∃ v,(Ab3 t vx vi).run C.P w=.ok v w/\Rep S M p v:=by
 unfold EL at h;split at h
 · rename_i k m
   rw [hi.int_inv];split at h
   · cases h
   · rename_i hm
     split at h
     · rename_i el ht
       split at h
       · rename_i xs s rP hs
         obtain ⟨inf,iu,rfl⟩:=DO hs;obtain ⟨ad,cap,rfl,Kc,CU⟩:=hx.elems_inv rP;split at h
         · rename_i v hg
           split at h
           · rename_i cx
             injection h with h;subst h
             have BC:m.toNat < xs.length:=by
              rcases Nat.lt_or_ge m.toNat xs.length with hh | hh
              · exact hh
              · rw [Ab8 hh] at hg;cases hg
             rcases CU with rfl | ⟨b,o,rfl,⟨sz,I4⟩,f,g1,g2,g3⟩
             · simp at BC
             · have I2:v ∈ xs:=List.mem_of_getElem? hg
               have e0:sz=inf.size:=by rw [<- I4 v I2];exact cx
               subst e0;have e1:=Fc xs m.toNat inf.size I4 (by omega)
               have e2:flat (xs.drop m.toNat)=v.cells++flat (xs.drop (m.toNat+1)):=by
                rw [List.drop_eq_getElem_cons BC];rw [Aax BC] at hg;injection hg with hg
                simp only [flat,List.flatMap_cons,hg]
               have eK:∀ j,j < v.cells.length->m.toNat * inf.size+j < (flat xs).length:=by
                intro j hj;have:(flat xs).length - m.toNat * inf.size=(v.cells++flat (xs.drop (m.toNat+1))).length:=by rw [<- e2,<- e1];simp
                simp at this;omega
               refine ⟨.pointer (some ⟨b,o+m.toNat * inf.size,none⟩),?_,?_⟩
               · have hb:(0:Int)<=m/\m < ((xs.length:Nat):Int):=⟨by omega,by omega⟩
                 simp only [Ab3,asIntOf,Aaw,AH ht,Aau,Ab2,hb,and_self,if_true,Ct iu,DU]
               · refine .ip _ b _ (fun j=>f (m.toNat * inf.size+j)) (fun j hj=>?_) (fun j hj=>?_) (fun j hj=>?_)
                 · rw [Nat.add_assoc];exact g1 _ (eK j hj)
                 · exact g2 _ (eK j hj)
                 · have:=g3 _ (eK j hj)
                   have e3:(flat xs)[m.toNat * inf.size+j]'(eK j hj)=v.cells[j]:=by
                    have:(flat xs)[m.toNat * inf.size+j]?=v.cells[j]?:=by
                     rw [<- Abb,e1,e2,Aaz hj]
                    rw [Aax (eK j hj),Aax hj] at this;injection this
                   rw [<- e3];exact this
           · cases h
         · cases h
       · cases h
     · rename_i len el ht
       split at h
       · rename_i hlen
         split at h
         · rename_i s hs
           obtain ⟨inf,iu,rfl⟩:=DO hs;have hb:(0:Int)<=m/\m < (len:Int):=⟨by omega,hlen⟩;split at h
           · injection h with h;subst h
             obtain ⟨b,o,rfl,g,g1,g2,g3⟩:=hx.ip_cells;refine ⟨_,?_,Rep.ip_drop (m.toNat * inf.size) g1 g2 g3⟩;simp only [Ab3,Abh,asIntOf,Aaw,AH ht,Aau,Ab2,hb,and_self,if_true,Ct iu,DU]
           · injection h with h;subst h
             obtain ⟨b,HA,rfl⟩:=hx.bp_inv;refine ⟨_,?_,.bp _ _ b HA⟩;simp only [Ab3,Abh,asIntOf,Aaw,AH ht,Aau,Ab2,hb,and_self,if_true,Ct iu,DU]
           · cases h
         · cases h
       · cases h
     · cases h
 · cases h
theorem ao {t:TypeId} {x i:PV} {vx vi:Value} {p:PV} (h:Dy C t x i=some p) (hx:Rep S M x vx) (hi:Rep S M i vi) :
 ∃ v,(Ab9 t vx vi).run C.P w=.ok v w/\Rep S M p v:=by
 unfold Dy at h;split at h
 · rename_i k m
   rw [hi.int_inv];split at h
   · cases h
   · rename_i hm
     split at h
     · rename_i s ht
       rw [hx.str_inv];split at h
       · rename_i b hg
         injection h with h;subst h
         refine ⟨_,?_,.int _ _⟩;have hm0:(0:Int)<=m:=by omega
         have e:(⟨s.toArray⟩:ByteArray)[m.toNat]?=some b:=by
          rw [<- hg];by_cases BC:m.toNat < s.length
          · rw [Aax BC]
            have:m.toNat < (⟨s.toArray⟩:ByteArray).size:=by simpa [Aba] using BC
            rw [getElem?_pos (⟨s.toArray⟩:ByteArray) m.toNat this];rfl
          · rw [Ab8 (by omega)] at hg;cases hg
         simp only [Ab9,asIntOf,Aaw,AH ht,Aau,Ab2,hm0,if_true,e]
       · cases h
     · rename_i len el cs ht
       obtain ⟨vs,rfl,l,h1,hr⟩:=hx.agg_inv;split at h
       · rename_i hlen
         split at h
         · rename_i s hs
           obtain ⟨inf,iu,rfl⟩:=DO hs;have hb:(0:Int)<=m/\m < (len:Int):=⟨by omega,hlen⟩;obtain ⟨v,hv,rv⟩:=Le (w:=w) h l h1 hr;exact ⟨v,by simp only [Ab9,asIntOf,Aaw,AH ht,Aau,Ab2,hb,and_self,if_true,Ct iu,hv],rv⟩
         · cases h
       · cases h
     · cases h
 · cases h
theorem iT {t ty:TypeId} {x:PV} {vx:Value} {p:PV} {ats:Array TypeId} {vs:Array Value} (h1:ats[0]?=some t) (h2:vs[0]?=some vx) (h:Tq C t x=some p) (hx:Rep S M x vx) :
 ∃ v,(Ab4 ats ty vs).run C.P w=.ok v w/\Rep S M p v:=by
 unfold Tq at h;split at h
 · rename_i s ht
   injection h with h;subst h
   obtain rfl:=hx.str_inv;refine ⟨_,?_,.int _ _⟩;have e:(⟨s.toArray⟩:ByteArray).size=s.length:=by simp [Aba]
   simp only [Ab4];simp only [h1,h2,Aaw,AH ht,Aau,e];rfl
 · rename_i m el x' ht
   injection h with h;subst h
   refine ⟨_,?_,.int _ _⟩;simp only [Ab4];simp only [h1,h2,Aaw,AH ht,Aau];rfl
 · rename_i ht
   obtain ⟨xs,rP,rfl⟩:=Ab1.1 h;obtain ⟨ad,cap,rfl,Kc,CU⟩:=hx.elems_inv rP;refine ⟨_,?_,.int _ _⟩;simp only [Ab4];simp only [h1,h2,Aaw,AH ht,Aau];rfl
 · cases h
theorem X0:∀ (r:List PV) (vr:List Value) (x:PV) (vx:Value) (p:PV),Ce S M r vr->Rep S M x vx ->
 r.foldlM (fun a b=>match a,b with
  | .int k x,.int k' y=>if k=k' then some (.int k (if y > x then y else x)) else none
  | _,_=>none) x=some p->∃ v,(vr.foldlM Abj vx).run C.P w=.ok v w/\Rep S M p v
 | [],vr,x,vx,p,hr,hx,h=>by
  have:vr=[]:=Aay (by simpa using hr.1.symm);subst this;simp only [Abg,Abc,Option.some.injEq] at h;subst h;exact ⟨vx,by simp,hx⟩
 | q :: r,vr,x,vx,p,hr,hx,h=>by
  cases vr with
  | nil=>exact absurd hr.1 (by simp)
  | cons u vr=>
   obtain ⟨hq,VR⟩:=hr.cons_inv;simp only [Abf] at h;obtain ⟨z,hz,h⟩:=Ab6.1 h;split at hz
   · rename_i k xx k' yy
     split at hz
     · injection hz with hz;subst hz
       rw [hx.int_inv,hq.int_inv];obtain ⟨v,hv,rv⟩:=X0 r vr _ (.int k (if yy > xx then yy else xx)) p VR (.int _ _) h;exact ⟨v,by simpa [Abj] using hv,rv⟩
     · cases hz
   · cases hz
theorem X1:∀ (r:List PV) (vr:List Value) (x:PV) (vx:Value) (p:PV),Ce S M r vr->Rep S M x vx ->
 r.foldlM (fun a b=>match a,b with
  | .int k x,.int k' y=>if k=k' then some (.int k (if y < x then y else x)) else none
  | _,_=>none) x=some p->∃ v,(vr.foldlM Abi vx).run C.P w=.ok v w/\Rep S M p v
 | [],vr,x,vx,p,hr,hx,h=>by
  have:vr=[]:=Aay (by simpa using hr.1.symm);subst this;simp only [Abg,Abc,Option.some.injEq] at h;subst h;exact ⟨vx,by simp,hx⟩
 | q :: r,vr,x,vx,p,hr,hx,h=>by
  cases vr with
  | nil=>exact absurd hr.1 (by simp)
  | cons u vr=>
   obtain ⟨hq,VR⟩:=hr.cons_inv;simp only [Abf] at h;obtain ⟨z,hz,h⟩:=Ab6.1 h;split at hz
   · rename_i k xx k' yy
     split at hz
     · injection hz with hz;subst hz
       rw [hx.int_inv,hq.int_inv];obtain ⟨v,hv,rv⟩:=X1 r vr _ (.int k (if yy < xx then yy else xx)) p VR (.int _ _) h;exact ⟨v,by simpa [Abi] using hv,rv⟩
     · cases hz
   · cases hz
theorem Sim.opdL (h:Sim C D B T S M n st a w) (xs:List Operand):Ce S M (xs.map (HH.opd C st.env)) (xs.map a.eval):=
 ⟨by simp,fun i hi Dm=>by simpa using h.opd (xs[i]'(by simpa using hi))⟩
theorem Sim.sealL (h:Sim C D B T S M n st a w) (xs:List Operand):Ce S M (xs.map fun x=>(HH.opd C st.env x).shutV) (xs.map a.eval):=
 ⟨by simp,fun i hi Dm=>by simpa using (h.opd (xs[i]'(by simpa using hi))).shutV⟩
def FG (S:AJ) (M:List Nat) (ps:List PV) (vs:Array Value):Prop:=
 vs.size=ps.length/\(∀ i (h:i < vs.size),(vs[i]).oneCell'=true)/\∀ i (h:i < ps.length) (h':i < vs.size),Rep S M ps[i] vs[i]
theorem Rep.oneCell {p:PV} {v:Value} (h:Rep S M p v) (h1:p.one=true):v.oneCell'=true/\v.cells=#[v]:=by
 cases h with
 | osl e xs v h=>cases h <;> exact ⟨rfl,rfl⟩
 | _=>first | (simp [PV.one] at h1;done) | exact ⟨rfl,rfl⟩
theorem Rep.cells {p:PV} {v:Value} (h:Rep S M p v) (hv:p.val=true):FG S M p.cells v.cells:=by
 have single:p.one=true->p.cells=[p]->FG S M p.cells v.cells:=by
  intro h1 hc;obtain ⟨a,b⟩:=h.oneCell h1;rw [hc,b];exact ⟨rfl,fun i hi=>by simp at hi;subst hi;exact a,fun i hi Dm=>by simp at hi;subst hi;exact h⟩
 cases p with
 | agg cs=>
  obtain ⟨vs,rfl,l,h1,hr⟩:=h.agg_inv;exact ⟨l,h1,hr⟩
 | top=>simp [PV.val] at hv
 | tup vs=>simp [PV.val] at hv
 | _=>exact single rfl rfl
theorem fh (vs:List Value) (off:Nat):∀ (k:Nat) (cells:Array Value),off+k+vs.length<=cells.size ->
 ((vs.zipIdx k).foldl (fun cs (x:Value×Nat)=>cs.setIfInBounds (off+x.2) x.1) cells).toList=cells.toList.take (off+k)++vs++cells.toList.drop (off+k+vs.length):=by
 induction vs with
 | nil=>intro k cells h;simp
 | cons v r ih=>
  intro k cells h;simp only [List.length_cons] at h;simp only [List.zipIdx_cons,List.foldl_cons];rw [show off+k+(v :: r).length=off+(k+1)+r.length by simp;omega];rw [ih (k+1) _ (by simp;omega)];rw [Array.toList_setIfInBounds];have BC:off+k < cells.toList.length:=by simp;omega
  rw [List.drop_set_of_lt (by omega)]
  congr 1
  rw [show off+(k+1)=(off+k)+1 by omega,List.take_add_one];rw [List.getElem?_set_self BC,List.take_set_of_le (by omega)];simp
theorem cU {cells:List PV} {vc:Array Value} {ps:List PV} {vs:Array Value} {off:Nat} (hc:FG S M cells vc) (hp:FG S M ps vs) (hl:off+ps.length<=cells.length) :
 FG S M (lay cells off ps) (vs.zipIdx.foldl (fun cs (x:Value×Nat)=>cs.setIfInBounds (off+x.2) x.1) vc):=by
 have e:(vs.zipIdx.foldl (fun cs (x:Value×Nat)=>cs.setIfInBounds (off+x.2) x.1) vc).toList=vc.toList.take off++vs.toList++vc.toList.drop (off+vs.size):=by
  rw [<- Array.foldl_toList,Array.toList_zipIdx];have:=fh vs.toList off 0 vc (by have:=hp.1;have:=hc.1;simp;omega);simpa using this
 generalize hR:vs.zipIdx.foldl (fun cs (x:Value×Nat)=>cs.setIfInBounds (off+x.2) x.1) vc=R at e;have h1:=hp.1;have h2:=hc.1
 have I4:R.size=(lay cells off ps).length:=by
  have:R.toList.length=R.size:=by simp
  rw [<- this,e];simp [lay];omega
 have get:∀ i (h:i < R.size),(i < off/\∃ h':i < vc.size,R[i]=vc[i])\/(off<=i/\i < off+ps.length/\∃ h':i - off < vs.size,R[i]=vs[i - off])\/(off+ps.length<=i/\∃ h':i < vc.size,R[i]=vc[i]):=by
  intro i h;have hx:R[i]?=(vc.toList.take off++vs.toList++vc.toList.drop (off+vs.size))[i]?:=by rw [<- e];simp
  rw [Aav h] at hx;have hsz':R.size=vc.size:=by rw [I4];simp [lay];omega
  by_cases c1:i < off
  · refine .inl ⟨c1,by omega,?_⟩
    rw [Abd,Aaz (by simp;omega),List.getElem?_take_of_lt c1] at hx;have:=Aav (xs:=vc) (i:=i) (by omega);simp [this] at hx;exact hx
  · by_cases c2:i < off+ps.length
    · refine .inr (.inl ⟨by omega,c2,by omega,?_⟩)
      rw [Abd,Ab5 (by simp;omega),Aaz (by simp;omega)] at hx;have hlen:(vc.toList.take off).length=off:=by simp;omega
      rw [hlen] at hx;have:=Aav (xs:=vs) (i:=i - off) (by omega);simp [this] at hx;exact hx
    · refine .inr (.inr ⟨by omega,by omega,?_⟩)
      rw [Ab5 (by simp;omega),Abb] at hx;have hlen:(vc.toList.take off++vs.toList).length=off+vs.size:=by simp;omega
      rw [hlen] at hx;rw [show off+vs.size+(i - (off+vs.size))=i by omega] at hx;have:=Aav (xs:=vc) (i:=i) (by omega);simp [this] at hx;exact hx
 refine ⟨I4,fun i h=>?_,fun i h h'=>?_⟩
 · rcases get i h with ⟨_,hh,e⟩ | ⟨_,_,hh,e⟩ | ⟨_,hh,e⟩ <;> rw [e]
   · exact hc.2.1 _ _
   · exact hp.2.1 _ _
   · exact hc.2.1 _ _
 · rcases get i h' with ⟨c,hh,e⟩ | ⟨c,c',hh,e⟩ | ⟨c,hh,e⟩ <;> rw [e]
   · have:(lay cells off ps)[i]=cells[i]'(by omega):=by
      simp only [lay];rw [Ab0 (by simp;omega),Ab0 (by simp;omega),List.getElem_take]
     rw [this];exact hc.2.2 _ _ _
   · have:(lay cells off ps)[i]=ps[i - off]'(by omega):=by
      simp only [lay];rw [Ab0 (by simp;omega),Ab7 (by simp;omega)]
      congr 1
      simp;omega
     rw [this];exact hp.2.2 _ _ _
   · have:(lay cells off ps)[i]=cells[i]'(by omega):=by
      simp only [lay];rw [Ab7 (by simp;omega),List.getElem_drop]
      congr 1
      simp;omega
     rw [this];exact hc.2.2 _ _ _
theorem NX {place:Nat->Option (Nat×Nat)}:∀ (parts:List (Nat×PV)) (vparts:List (Nat×Value)) (cells:List PV) (vc:Array Value) (r:List PV),
 parts.length=vparts.length->(∀ i (h:i < parts.length) (h':i < vparts.length),parts[i].1=vparts[i].1/\Rep S M parts[i].2 vparts[i].2) ->
 FG S M cells vc->UN place cells parts=some r->∃ vr,Abk place vc vparts=some vr/\FG S M r vr
 | [],vparts,cells,vc,r,hl,_,hc,h=>by
  have:vparts=[]:=Aay hl.symm;subst this;simp only [UN,Option.some.injEq] at h;subst h;exact ⟨vc,rfl,hc⟩
 | (i,v) :: rest,vparts,cells,vc,r,hl,hp,hc,h=>by
  cases vparts with
  | nil=>simp at hl
  | cons u vparts=>
   obtain ⟨j,u⟩:=u;have h0:=hp 0 (by simp) (by simp);simp only [List.getElem_cons_zero] at h0;obtain ⟨rfl,hv⟩:=h0;unfold UN at h;unfold Abk;split at h
   · cases h
   · rename_i off size Ke
     simp only [Ke];split at h
     · rename_i GI
       simp only [Bool.and_eq_true,beq_iff_eq,decide_eq_true_eq] at GI;obtain ⟨⟨HB,I4⟩,hle⟩:=GI;have CU:=hv.cells HB;have h1:=CU.1;have h2:=hc.1;rw [if_neg (by simp;omega)]
       exact NX rest vparts _ _ r (by simpa using hl) (fun k a b=>by
        have:=hp (k+1) (by simpa using a) (by simpa using b);simp only [List.getElem_cons_succ] at this;exact this) (cU hc CU hle) h
     · cases h
theorem G9 {t:TypeId} {z:PV} (h:tZero C t=some z):∃ i v,C.P.info? t=some i/\i.zero=some v/\z=cval v:=by
 unfold HH.tZero at h;cases hi:C.P.info? t with
 | none=>simp [hi] at h
 | some i=>
  cases hz:i.zero with
  | none=>simp [hi,hz] at h
  | some v=>exact ⟨i,v,rfl,hz,by simpa [hi,hz] using h.symm⟩
theorem ar {t:TypeId} {parts:List (Nat×PV)} {vparts:Array (Nat×Value)} {p:PV} (h:A' C t parts=some p)
 (hl:parts.length=vparts.size) (hp:∀ i (h:i < parts.length) (h':i < vparts.size),parts[i].1=vparts[i].1/\Rep S M parts[i].2 vparts[i].2) :
 ∃ v,(Instr.build t vparts).run C.P w=.ok v w/\Rep S M p v:=by
 unfold A' at h;split at h
 · rename_i fields z ht hz
   obtain ⟨it,zv,hit,hiz,rfl⟩:=G9 hz;split at h
   · rename_i places Ke
     split at h
     · rename_i HB
       obtain ⟨r,hr,rfl⟩:=Ab1.1 h;obtain ⟨vr,yB,rr⟩:=NX parts vparts.toList _ _ r (by simpa using hl) (fun i a b=>by simpa using hp i a (by simpa using b)) ((Rep.cval (S:=S) (M:=M) zv).cells HB) hr;refine ⟨.agg vr,run_build w t vparts vr ?_,.agg _ _ rr.1 rr.2.1 rr.2.2⟩
       have hpl':fields.toList.mapM (fun f=>(C.P.info? f.type).map fun i=>(f.offset,i.size))=some places:=by
        rw [<- Ke];congr 1;funext f;simp [HH.tSize,Option.map_map];rfl
       simp only [Abe,hit,ht,hiz,hpl'];simpa using yB
     · cases h
   · cases h
 · rename_i k e z ht hz
   obtain ⟨it,zv,hit,hiz,rfl⟩:=G9 hz;split at h
   · rename_i s hs
     obtain ⟨ie,hie,rfl⟩:=DO hs;split at h
     · rename_i HB
       obtain ⟨r,hr,rfl⟩:=Ab1.1 h;obtain ⟨vr,yB,rr⟩:=NX parts vparts.toList _ _ r (by simpa using hl) (fun i a b=>by simpa using hp i a (by simpa using b)) ((Rep.cval (S:=S) (M:=M) zv).cells HB) hr;refine ⟨.agg vr,run_build w t vparts vr ?_,.agg _ _ rr.1 rr.2.1 rr.2.2⟩;simp only [Abe,hit,ht,hiz,hie];exact yB
     · cases h
   · cases h
 · cases h
end
end Go.HH
