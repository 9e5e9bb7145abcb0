/-
  What the law needs, packed: Pure3.
-/
import Derived.Laws.Tables
import Derived.Test.YthjabmlbmnadjaaGreatJ7
open Go.Result renaming andThen_ok->yW
open Array renaming getElem?_eq_getElem->yX
open Go.Sem renaming run_bind->yY,run_pure->y4
open List renaming getElem?_eq_getElem->yZ,eq_nil_of_length_eq_zero->y0,getElem?_append_left->y1,getElem_append_left->y2,getElem?_append_right->y7,getElem_append_right->y9,getElem?_eq_none->y',getElem?_drop->ze,append_assoc->zg,foldlM_cons->zi,foldlM_nil->zj
open Option renaming map_eq_some_iff->y3,bind_eq_some_iff->y8,pure_def->zf
open Go.Instr renaming indexAt->y5,index->za,sureAddr->zk,fill->zn
open Go.Builtin renaming len_->y6,min2->zl,max2->zm
open ByteArray renaming size->zd
open Go.Program renaming built->zh
namespace Go.HH
open Go Go.RowKit
section
variable {C:Cfg} {D:List Deferred} {B:Nat} {T:Nat->Prop} {S:AY} {M:List Nat} {n:Nat} {st:St} {a:Act} {w:World}
theorem RZ {t:TypeId} {x i:PV} {vx vi:Value} {p:PV} (h:FC C t x i=some p) (hx:Rep S M x vx) (hi:Rep S M i vi) :
 ∃ v,(y5 t vx vi).run C.P w=.ok v w/\Rep S M p v:=by
 unfold FC at h;split at h
 · rename_i k m
   rw [hi.int_inv];split at h
   · cases h
   · rename_i hm
     split at h
     · rename_i el ht
       split at h
       · rename_i xs s pT hs
         obtain ⟨inf,iq,rfl⟩:=Er hs;obtain ⟨ad,cap,rfl,K4,Dz⟩:=hx.elems_inv pT;split at h
         · rename_i v hg
           split at h
           · rename_i dG
             injection h with h;subst h
             have Bq:m.toNat < xs.length:=by
              rcases Nat.lt_or_ge m.toNat xs.length with hh | hh
              · exact hh
              · rw [y' hh] at hg;cases hg
             rcases Dz with rfl | ⟨b,o,rfl,⟨sz,JE⟩,f,g1,g2,g3⟩
             · simp at Bq
             · have N2:v ∈ xs:=List.mem_of_getElem? hg
               have e0:sz=inf.size:=by rw [<- JE v N2];exact dG
               subst e0;have e1:=F2 xs m.toNat inf.size JE (by omega)
               have e2:flat (xs.drop m.toNat)=v.cells++flat (xs.drop (m.toNat+1)):=by
                rw [List.drop_eq_getElem_cons Bq];rw [yZ Bq] at hg;injection hg with hg
                simp only [flat,List.flatMap_cons,hg]
               have ir:∀ j,j < v.cells.length->m.toNat * inf.size+j < (flat xs).length:=by
                intro j hj;have:(flat xs).length - m.toNat * inf.size=(v.cells++flat (xs.drop (m.toNat+1))).length:=by rw [<- e2,<- e1];simp
                simp at this;omega
               refine ⟨.pointer (some ⟨b,o+m.toNat * inf.size,none⟩),?_,?_⟩
               · have hb:(0:Int)<=m/\m < ((xs.length:Nat):Int):=⟨by omega,by omega⟩
                 simp only [y5,asIntOf,yY,AS ht,yW,y4,hb,and_self,if_true,C7 iq,EC]
               · refine .ip _ b _ (fun j=>f (m.toNat * inf.size+j)) (fun j hj=>?_) (fun j hj=>?_) (fun j hj=>?_)
                 · rw [Nat.add_assoc];exact g1 _ (ir j hj)
                 · exact g2 _ (ir j hj)
                 · have:=g3 _ (ir j hj)
                   have e3:(flat xs)[m.toNat * inf.size+j]'(ir j hj)=v.cells[j]:=by
                    have:(flat xs)[m.toNat * inf.size+j]?=v.cells[j]?:=by
                     rw [<- ze,e1,e2,y1 hj]
                    rw [yZ (ir j hj),yZ hj] at this;injection this
                   rw [<- e3];exact this
           · cases h
         · cases h
       · cases h
     · rename_i len el ht
       split at h
       · rename_i hlen
         split at h
         · rename_i s hs
           obtain ⟨inf,iq,rfl⟩:=Er hs;have hb:(0:Int)<=m/\m < (len:Int):=⟨by omega,hlen⟩;split at h
           · injection h with h;subst h
             obtain ⟨b,o,rfl,g,g1,g2,g3⟩:=hx.ip_cells;refine ⟨_,?_,Rep.ip_drop (m.toNat * inf.size) g1 g2 g3⟩;simp only [y5,zk,asIntOf,yY,AS ht,yW,y4,hb,and_self,if_true,C7 iq,EC]
           · injection h with h;subst h
             obtain ⟨b,Im,rfl⟩:=hx.bp_inv;refine ⟨_,?_,.bp _ _ b Im⟩;simp only [y5,zk,asIntOf,yY,AS ht,yW,y4,hb,and_self,if_true,C7 iq,EC]
           · cases h
         · cases h
       · cases h
     · cases h
 · cases h
theorem bL {t:TypeId} {x i:PV} {vx vi:Value} {p:PV} (h:EK C t x i=some p) (hx:Rep S M x vx) (hi:Rep S M i vi) :
 ∃ v,(za t vx vi).run C.P w=.ok v w/\Rep S M p v:=by
 unfold EK at h;split at h
 · rename_i k m
   rw [hi.int_inv];split at h
   · cases h
   · rename_i hm
     split at h
     · rename_i s ht
       rw [hx.str_inv];split at h
       · rename_i b hg
         injection h with h;subst h
         refine ⟨_,?_,.int _ _⟩;have hm0:(0:Int)<=m:=by omega
         have e:(⟨s.toArray⟩:ByteArray)[m.toNat]?=some b:=by
          rw [<- hg];by_cases Bq:m.toNat < s.length
          · rw [yZ Bq]
            have:m.toNat < (⟨s.toArray⟩:ByteArray).size:=by simpa [zd] using Bq
            rw [getElem?_pos (⟨s.toArray⟩:ByteArray) m.toNat this];rfl
          · rw [y' (by omega)] at hg;cases hg
         simp only [za,asIntOf,yY,AS ht,yW,y4,hm0,if_true,e]
       · cases h
     · rename_i len el cs ht
       obtain ⟨vs,rfl,l,h1,hr⟩:=hx.agg_inv;split at h
       · rename_i hlen
         split at h
         · rename_i s hs
           obtain ⟨inf,iq,rfl⟩:=Er hs;have hb:(0:Int)<=m/\m < (len:Int):=⟨by omega,hlen⟩;obtain ⟨v,hv,rv⟩:=L3 (w:=w) h l h1 hr;exact ⟨v,by simp only [za,asIntOf,yY,AS ht,yW,y4,hb,and_self,if_true,C7 iq,hv],rv⟩
         · cases h
       · cases h
     · cases h
 · cases h
theorem jg {t ty:TypeId} {x:PV} {vx:Value} {p:PV} {ats:Array TypeId} {vs:Array Value} (h1:ats[0]?=some t) (h2:vs[0]?=some vx) (h:Uo C t x=some p) (hx:Rep S M x vx) :
 ∃ v,(y6 ats ty vs).run C.P w=.ok v w/\Rep S M p v:=by
 unfold Uo at h;split at h
 · rename_i s ht
   injection h with h;subst h
   obtain rfl:=hx.str_inv;refine ⟨_,?_,.int _ _⟩;have e:(⟨s.toArray⟩:ByteArray).size=s.length:=by simp [zd]
   simp only [y6];simp only [h1,h2,yY,AS ht,yW,e];rfl
 · rename_i m el x' ht
   injection h with h;subst h
   refine ⟨_,?_,.int _ _⟩;simp only [y6];simp only [h1,h2,yY,AS ht,yW];rfl
 · rename_i ht
   obtain ⟨xs,pT,rfl⟩:=y3.1 h;obtain ⟨ad,cap,rfl,K4,Dz⟩:=hx.elems_inv pT;refine ⟨_,?_,.int _ _⟩;simp only [y6];simp only [h1,h2,yY,AS ht,yW];rfl
 · cases h
theorem YV:∀ (r:List PV) (vr:List Value) (x:PV) (vx:Value) (p:PV),CD S M r vr->Rep S M x vx ->
 r.foldlM (fun a b=>match a,b with
  | .int k x,.int k' y=>if k=k' then some (.int k (if y > x then y else x)) else none
  | _,_=>none) x=some p->∃ v,(vr.foldlM zm vx).run C.P w=.ok v w/\Rep S M p v
 | [],vr,x,vx,p,hr,hx,h=>by
  have:vr=[]:=y0 (by simpa using hr.1.symm);subst this;simp only [zj,zf,Option.some.injEq] at h;subst h;exact ⟨vx,by simp,hx⟩
 | q :: r,vr,x,vx,p,hr,hx,h=>by
  cases vr with
  | nil=>exact absurd hr.1 (by simp)
  | cons u vr=>
   obtain ⟨hq,WL⟩:=hr.cons_inv;simp only [zi] at h;obtain ⟨z,hz,h⟩:=y8.1 h;split at hz
   · rename_i k xx k' yy
     split at hz
     · injection hz with hz;subst hz
       rw [hx.int_inv,hq.int_inv];obtain ⟨v,hv,rv⟩:=YV r vr _ (.int k (if yy > xx then yy else xx)) p WL (.int _ _) h;exact ⟨v,by simpa [zm] using hv,rv⟩
     · cases hz
   · cases hz
theorem YW:∀ (r:List PV) (vr:List Value) (x:PV) (vx:Value) (p:PV),CD S M r vr->Rep S M x vx ->
 r.foldlM (fun a b=>match a,b with
  | .int k x,.int k' y=>if k=k' then some (.int k (if y < x then y else x)) else none
  | _,_=>none) x=some p->∃ v,(vr.foldlM zl vx).run C.P w=.ok v w/\Rep S M p v
 | [],vr,x,vx,p,hr,hx,h=>by
  have:vr=[]:=y0 (by simpa using hr.1.symm);subst this;simp only [zj,zf,Option.some.injEq] at h;subst h;exact ⟨vx,by simp,hx⟩
 | q :: r,vr,x,vx,p,hr,hx,h=>by
  cases vr with
  | nil=>exact absurd hr.1 (by simp)
  | cons u vr=>
   obtain ⟨hq,WL⟩:=hr.cons_inv;simp only [zi] at h;obtain ⟨z,hz,h⟩:=y8.1 h;split at hz
   · rename_i k xx k' yy
     split at hz
     · injection hz with hz;subst hz
       rw [hx.int_inv,hq.int_inv];obtain ⟨v,hv,rv⟩:=YW r vr _ (.int k (if yy < xx then yy else xx)) p WL (.int _ _) h;exact ⟨v,by simpa [zl] using hv,rv⟩
     · cases hz
   · cases hz
theorem Sim.opdL (h:Sim C D B T S M n st a w) (xs:List Operand):CD S M (xs.map (HH.opd C st.env)) (xs.map a.eval):=
 ⟨by simp,fun i hi Ey=>by simpa using h.opd (xs[i]'(by simpa using hi))⟩
theorem Sim.sealL (h:Sim C D B T S M n st a w) (xs:List Operand):CD S M (xs.map fun x=>(HH.opd C st.env x).shutV) (xs.map a.eval):=
 ⟨by simp,fun i hi Ey=>by simpa using (h.opd (xs[i]'(by simpa using hi))).shutV⟩
def Gm (S:AY) (M:List Nat) (ps:List PV) (vs:Array Value):Prop:=
 vs.size=ps.length/\(∀ i (h:i < vs.size),(vs[i]).oneCell'=true)/\∀ i (h:i < ps.length) (h':i < vs.size),Rep S M ps[i] vs[i]
theorem Rep.oneCell {p:PV} {v:Value} (h:Rep S M p v) (h1:p.one=true):v.oneCell'=true/\v.cells=#[v]:=by
 cases h with
 | osl e xs v h=>cases h <;> exact ⟨rfl,rfl⟩
 | _=>first | (simp [PV.one] at h1;done) | exact ⟨rfl,rfl⟩
theorem Rep.cells {p:PV} {v:Value} (h:Rep S M p v) (hv:p.val=true):Gm S M p.cells v.cells:=by
 have single:p.one=true->p.cells=[p]->Gm S M p.cells v.cells:=by
  intro h1 hc;obtain ⟨a,b⟩:=h.oneCell h1;rw [hc,b];exact ⟨rfl,fun i hi=>by simp at hi;subst hi;exact a,fun i hi Ey=>by simp at hi;subst hi;exact h⟩
 cases p with
 | agg cs=>
  obtain ⟨vs,rfl,l,h1,hr⟩:=h.agg_inv;exact ⟨l,h1,hr⟩
 | top=>simp [PV.val] at hv
 | tup vs=>simp [PV.val] at hv
 | _=>exact single rfl rfl
theorem fN (vs:List Value) (off:Nat):∀ (k:Nat) (cells:Array Value),off+k+vs.length<=cells.size ->
 ((vs.zipIdx k).foldl (fun cs (x:Value×Nat)=>cs.setIfInBounds (off+x.2) x.1) cells).toList=cells.toList.take (off+k)++vs++cells.toList.drop (off+k+vs.length):=by
 induction vs with
 | nil=>intro k cells h;simp
 | cons v r ih=>
  intro k cells h;simp only [List.length_cons] at h;simp only [List.zipIdx_cons,List.foldl_cons];rw [show off+k+(v :: r).length=off+(k+1)+r.length by simp;omega];rw [ih (k+1) _ (by simp;omega)];rw [Array.toList_setIfInBounds];have Bq:off+k < cells.toList.length:=by simp;omega
  rw [List.drop_set_of_lt (by omega)]
  congr 1
  rw [show off+(k+1)=(off+k)+1 by omega,List.take_add_one];rw [List.getElem?_set_self Bq,List.take_set_of_le (by omega)];simp
theorem dU {cells:List PV} {vc:Array Value} {ps:List PV} {vs:Array Value} {off:Nat} (hc:Gm S M cells vc) (hp:Gm S M ps vs) (hl:off+ps.length<=cells.length) :
 Gm S M (lay cells off ps) (vs.zipIdx.foldl (fun cs (x:Value×Nat)=>cs.setIfInBounds (off+x.2) x.1) vc):=by
 have e:(vs.zipIdx.foldl (fun cs (x:Value×Nat)=>cs.setIfInBounds (off+x.2) x.1) vc).toList=vc.toList.take off++vs.toList++vc.toList.drop (off+vs.size):=by
  rw [<- Array.foldl_toList,Array.toList_zipIdx];have:=fN vs.toList off 0 vc (by have:=hp.1;have:=hc.1;simp;omega);simpa using this
 generalize hR:vs.zipIdx.foldl (fun cs (x:Value×Nat)=>cs.setIfInBounds (off+x.2) x.1) vc=R at e;have h1:=hp.1;have h2:=hc.1
 have JE:R.size=(lay cells off ps).length:=by
  have:R.toList.length=R.size:=by simp
  rw [<- this,e];simp [lay];omega
 have get:∀ i (h:i < R.size),(i < off/\∃ h':i < vc.size,R[i]=vc[i])\/(off<=i/\i < off+ps.length/\∃ h':i - off < vs.size,R[i]=vs[i - off])\/(off+ps.length<=i/\∃ h':i < vc.size,R[i]=vc[i]):=by
  intro i h;have hx:R[i]?=(vc.toList.take off++vs.toList++vc.toList.drop (off+vs.size))[i]?:=by rw [<- e];simp
  rw [yX h] at hx;have hsz':R.size=vc.size:=by rw [JE];simp [lay];omega
  by_cases c1:i < off
  · refine .inl ⟨c1,by omega,?_⟩
    rw [zg,y1 (by simp;omega),List.getElem?_take_of_lt c1] at hx;have:=yX (xs:=vc) (i:=i) (by omega);simp [this] at hx;exact hx
  · by_cases c2:i < off+ps.length
    · refine .inr (.inl ⟨by omega,c2,by omega,?_⟩)
      rw [zg,y7 (by simp;omega),y1 (by simp;omega)] at hx;have hlen:(vc.toList.take off).length=off:=by simp;omega
      rw [hlen] at hx;have:=yX (xs:=vs) (i:=i - off) (by omega);simp [this] at hx;exact hx
    · refine .inr (.inr ⟨by omega,by omega,?_⟩)
      rw [y7 (by simp;omega),ze] at hx;have hlen:(vc.toList.take off++vs.toList).length=off+vs.size:=by simp;omega
      rw [hlen] at hx;rw [show off+vs.size+(i - (off+vs.size))=i by omega] at hx;have:=yX (xs:=vc) (i:=i) (by omega);simp [this] at hx;exact hx
 refine ⟨JE,fun i h=>?_,fun i h h'=>?_⟩
 · rcases get i h with ⟨_,hh,e⟩ | ⟨_,_,hh,e⟩ | ⟨_,hh,e⟩ <;> rw [e]
   · exact hc.2.1 _ _
   · exact hp.2.1 _ _
   · exact hc.2.1 _ _
 · rcases get i h' with ⟨c,hh,e⟩ | ⟨c,c',hh,e⟩ | ⟨c,hh,e⟩ <;> rw [e]
   · have:(lay cells off ps)[i]=cells[i]'(by omega):=by
      simp only [lay];rw [y2 (by simp;omega),y2 (by simp;omega),List.getElem_take]
     rw [this];exact hc.2.2 _ _ _
   · have:(lay cells off ps)[i]=ps[i - off]'(by omega):=by
      simp only [lay];rw [y2 (by simp;omega),y9 (by simp;omega)]
      congr 1
      simp;omega
     rw [this];exact hp.2.2 _ _ _
   · have:(lay cells off ps)[i]=cells[i]'(by omega):=by
      simp only [lay];rw [y9 (by simp;omega),List.getElem_drop]
      congr 1
      simp;omega
     rw [this];exact hc.2.2 _ _ _
theorem Ph {place:Nat->Option (Nat×Nat)}:∀ (parts:List (Nat×PV)) (vparts:List (Nat×Value)) (cells:List PV) (vc:Array Value) (r:List PV),
 parts.length=vparts.length->(∀ i (h:i < parts.length) (h':i < vparts.length),parts[i].1=vparts[i].1/\Rep S M parts[i].2 vparts[i].2) ->
 Gm S M cells vc->VV place cells parts=some r->∃ vr,zn place vc vparts=some vr/\Gm S M r vr
 | [],vparts,cells,vc,r,hl,_,hc,h=>by
  have:vparts=[]:=y0 hl.symm;subst this;simp only [VV,Option.some.injEq] at h;subst h;exact ⟨vc,rfl,hc⟩
 | (i,v) :: rest,vparts,cells,vc,r,hl,hp,hc,h=>by
  cases vparts with
  | nil=>simp at hl
  | cons u vparts=>
   obtain ⟨j,u⟩:=u;have h0:=hp 0 (by simp) (by simp);simp only [List.getElem_cons_zero] at h0;obtain ⟨rfl,hv⟩:=h0;unfold VV at h;unfold zn;split at h
   · cases h
   · rename_i off size Um
     simp only [Um];split at h
     · rename_i Hr
       simp only [Bool.and_eq_true,beq_iff_eq,decide_eq_true_eq] at Hr;obtain ⟨⟨Hp,JE⟩,hle⟩:=Hr;have Dz:=hv.cells Hp;have h1:=Dz.1;have h2:=hc.1;rw [if_neg (by simp;omega)]
       exact Ph rest vparts _ _ r (by simpa using hl) (fun k a b=>by
        have:=hp (k+1) (by simpa using a) (by simpa using b);simp only [List.getElem_cons_succ] at this;exact this) (dU hc Dz hle) h
     · cases h
theorem HX {t:TypeId} {z:PV} (h:tZero C t=some z):∃ i v,C.P.info? t=some i/\i.zero=some v/\z=cval v:=by
 unfold HH.tZero at h;cases hi:C.P.info? t with
 | none=>simp [hi] at h
 | some i=>
  cases hz:i.zero with
  | none=>simp [hi,hz] at h
  | some v=>exact ⟨i,v,rfl,hz,by simpa [hi,hz] using h.symm⟩
theorem bM {t:TypeId} {parts:List (Nat×PV)} {vparts:Array (Nat×Value)} {p:PV} (h:Bp C t parts=some p)
 (hl:parts.length=vparts.size) (hp:∀ i (h:i < parts.length) (h':i < vparts.size),parts[i].1=vparts[i].1/\Rep S M parts[i].2 vparts[i].2) :
 ∃ v,(Instr.build t vparts).run C.P w=.ok v w/\Rep S M p v:=by
 unfold Bp at h;split at h
 · rename_i fields z ht hz
   obtain ⟨it,zv,xG,xH,rfl⟩:=HX hz;split at h
   · rename_i places Um
     split at h
     · rename_i Hp
       obtain ⟨r,hr,rfl⟩:=y3.1 h;obtain ⟨vr,vd,rr⟩:=Ph parts vparts.toList _ _ r (by simpa using hl) (fun i a b=>by simpa using hp i a (by simpa using b)) ((Rep.cval (S:=S) (M:=M) zv).cells Hp) hr;refine ⟨.agg vr,run_build w t vparts vr ?_,.agg _ _ rr.1 rr.2.1 rr.2.2⟩
       have hpl':fields.toList.mapM (fun f=>(C.P.info? f.type).map fun i=>(f.offset,i.size))=some places:=by
        rw [<- Um];congr 1;funext f;simp [HH.tSize,Option.map_map];rfl
       simp only [zh,xG,ht,xH,hpl'];simpa using vd
     · cases h
   · cases h
 · rename_i k e z ht hz
   obtain ⟨it,zv,xG,xH,rfl⟩:=HX hz;split at h
   · rename_i s hs
     obtain ⟨ie,hie,rfl⟩:=Er hs;split at h
     · rename_i Hp
       obtain ⟨r,hr,rfl⟩:=y3.1 h;obtain ⟨vr,vd,rr⟩:=Ph parts vparts.toList _ _ r (by simpa using hl) (fun i a b=>by simpa using hp i a (by simpa using b)) ((Rep.cval (S:=S) (M:=M) zv).cells Hp) hr;refine ⟨.agg vr,run_build w t vparts vr ?_,.agg _ _ rr.1 rr.2.1 rr.2.2⟩;simp only [zh,xG,ht,xH,hie];exact vd
     · cases h
   · cases h
 · cases h
end
end Go.HH
