/-
  What the law needs, packed: Step9.
-/
import Derived.Test.YthjabmlbmnadjaaGreatJ17
open List renaming getElem?_eq_getElem->yW,getElem?_append_right->yY,getElem?_append_left->yZ,getElem?_eq_none->y0,append_assoc->y1,getElem?_take_of_lt->y4,getElem?_set_self->y5,mem_of_getElem?->y6,getElem?_set_ne->y7,getElem?_drop->y8,getElem_inj->y9
open Array renaming getElem?_eq_getElem->yX
open Go.World renaming cell?_of_block->y2
open Nat renaming lt_or_ge->y3
open Ne renaming symm->y'
namespace Go.HH
open Go Go.RowKit
section
variable {C:Cfg} {D:List Deferred} {B:Nat} {T:Nat->Prop} {S:AY} {M:List Nat} {n:Nat} {st:St} {a:Act} {w:World}
theorem W1 {cells ps:List PV} {off:Nat} (h:off+ps.length<=cells.length) (i:Nat) :
 (lay cells off ps)[i]?=if off<=i/\i < off+ps.length then ps[i - off]? else cells[i]?:=by
 unfold lay;by_cases c1:i < off
 · rw [if_neg (by omega),y1,yZ (by simp;omega),y4 c1]
 · by_cases c2:i < off+ps.length
   · rw [if_pos ⟨by omega,c2⟩,y1,yY (by simp;omega),yZ (by simp;omega)]
     congr 1
     simp;omega
   · rw [if_neg (by omega),yY (by simp;omega),y8]
     congr 1
     simp;omega
theorem Sim.setBoxObj (h:Sim C D B T S M n st a w) {id:Nat} {b:Nat} (hm:M[id]?=some b) (Ad:id < st.bx.length) {x:PBox} {w':World} (P9:BoxAt S M w' x b)
 (os:w'.os=w.os) (tape:w'.tape=w.tape) (output:w'.output=w.output) (size:w.heap.size=w'.heap.size) (block:∀ k,k≠b->w'.heap[k]?=w.heap[k]?)
 (N3:∀ t cs off e xs v,x=.cells t cs->cs[off]?=some (.osl e xs)->w'.cell? ⟨b,off,none⟩=some v ->
  (LocAt st M a w (.box id off) (.osl e xs) v) \/
  (OwnAt C.P S M w e xs v/\(∀ g,v.ownBlock=some g->B<=g\/T g)/\(∀ l e' xs' u g,l≠.box id off->LocAt st M a w l (.osl e' xs') u->u.ownBlock=some g->v.ownBlock≠some g) /\
   ∀ off' e' xs' u g,off'≠off->cs[off']?=some (.osl e' xs')->w'.cell? ⟨b,off',none⟩=some u->u.ownBlock=some g->v.ownBlock≠some g)) :
 Sim C D B T S M n ⟨st.env,st.bx.set id x⟩ a w'/\Grows B T S w S w':=by
 have wb:b ∈ M:=y6 hm
 have DZ:∀ id' b',id'≠id->M[id']?=some b'->b'≠b:=by
  intro id' b' hi Uk e;subst e
  have h1:id' < M.length:=by
   rcases y3 id' M.length with h | h
   · exact h
   · rw [y0 h] at Uk;cases Uk
  have h2:id < M.length:=by
   rcases y3 id M.length with h | h
   · exact h
   · rw [y0 h] at hm;cases hm
  rw [yW h1] at Uk;rw [yW h2] at hm;injection Uk with Uk
  injection hm with hm
  exact hi ((y9 h.nodup).1 (Uk.trans hm.symm))
 -- a place that owns,now
 have loc:∀ l e xs v,LocAt ⟨st.env,st.bx.set id x⟩ M a w' l (.osl e xs) v ->
  (LocAt st M a w l (.osl e xs) v)\/(∃ off t cs,l=.box id off/\x=.cells t cs/\cs[off]?=some (.osl e xs)/\w'.cell? ⟨b,off,none⟩=some v):=by
  intro l e xs v hl;cases l with
  | tmp t=>exact .inl hl
  | box id' off=>
   obtain ⟨cs,b',h1,h2,h3,h4⟩:=hl;by_cases hi:id'=id
   · subst hi
     rw [hm] at h3;injection h3 with h3
     subst h3;unfold Bg at h1;simp only at h1;rw [y5 Ad] at h1;split at h1
     · rename_i c heq
       injection h1 with h1
       injection heq with heq
       subst h1;exact .inr ⟨off,_,c,rfl,heq,h2,h4⟩
     · cases h1
   · refine .inl ⟨cs,b',?_,h2,h3,?_⟩
     · unfold Bg at h1 |-
       simp only at h1;rw [y7 (y' hi)] at h1;exact h1
     · rw [<- h4]
       exact (y2 (a:=⟨b',off,none⟩) (block b' (DZ id' b' hi h3))).symm
 have ownEq:∀ l e xs v,LocAt ⟨st.env,st.bx.set id x⟩ M a w' l (.osl e xs) v->OwnAt C.P S M w e xs v/\∀ g,v.ownBlock=some g->B<=g\/T g:=by
  intro l e xs v hl;rcases loc l e xs v hl with hl | ⟨off,t,cs,rfl,hx,h1,h2⟩
  · exact h.own l e xs v hl
  · rcases N3 t cs off e xs v hx h1 h2 with hl | ⟨h3,h4,_⟩
    · exact h.own _ e xs v hl
    · exact ⟨h3,h4⟩
 refine ⟨⟨fun b' o v hv=>?_,h.glob,h.gw.keep (fun k hk VN=>block k (fun e=>by subst e;rcases h.mT k wb with h | h;omega;exact VN h)),h.size,h.dfr,h.env,by simpa using h.mlen,fun id' y hy=>?_,h.nodup,h.mS,h.mT,by rw [<- size];exact h.hB,fun l e xs v hl=>?_,fun l l' e e' xs xs' v v' g hl FU hv QD=>?_⟩,os,tape,output,by omega,fun k hk VN=>?_,AY.le.refl _,fun _ _ _ _=>rfl⟩
 · have hb:b'≠b:=by rintro rfl;rw [h.mS b' wb] at hv;cases hv
   rw [y2 (a:=⟨b',o,none⟩) (block b' hb)];exact h.holds b' o v hv
 · by_cases hi:id'=id
   · subst hi
     simp only at hy;rw [y5 Ad] at hy;injection hy with hy
     subst hy;exact ⟨b,hm,P9⟩
   · simp only at hy
     rw [y7 (y' hi)] at hy;obtain ⟨b',h1,h2⟩:=h.boxes id' y hy;exact ⟨b',h1,h2.kept (AY.le.refl _) (block b' (DZ id' b' hi h1))⟩
 · obtain ⟨h1,h2⟩:=ownEq l e xs v hl
   refine ⟨h1.kept fun g hg=>⟨block g ?_,fun _=>rfl⟩,h2⟩;obtain ⟨i,vals,_,_,_,h3⟩:=h1
   rintro rfl
   exact (h3 g hg).1 wb
 · rcases loc l e xs v hl with VM | ⟨off,t,cs,rfl,hx,h1,h2⟩
   · rcases loc l' e' xs' v' FU with Gk | ⟨off',t',cs',rfl,Ie,l4,mD⟩
     · exact h.apart l l' e e' xs xs' v v' g VM Gk hv QD
     · rcases N3 t' cs' off' e' xs' v' Ie l4 mD with Gk | ⟨_,_,h5,_⟩
       · exact h.apart l _ e e' xs xs' v v' g VM Gk hv QD
       · by_cases ir:l=.box id off'
         · exact ir
         · exact absurd QD (h5 l e xs v g ir VM hv)
   · rcases loc l' e' xs' v' FU with Gk | ⟨off',t',cs',rfl,Ie,l4,mD⟩
     · rcases N3 t cs off e xs v hx h1 h2 with VM | ⟨_,_,h5,_⟩
       · exact h.apart _ l' e e' xs xs' v v' g VM Gk hv QD
       · by_cases ir:l'=.box id off
         · exact ir.symm
         · exact absurd hv (h5 l' e' xs' v' g ir Gk QD)
     · rw [hx] at Ie
       injection Ie with _ Ie
       subst Ie;by_cases ho:off'=off
       · rw [ho]
       · exfalso
         rcases N3 t cs off e xs v hx h1 h2 with VM | ⟨_,_,_,h6⟩
         · rcases N3 _ cs off' e' xs' v' hx l4 mD with Gk | ⟨_,_,_,h6⟩
           · have:=h.apart _ _ e e' xs xs' v v' g VM Gk hv QD
             injection this with _ this
             exact ho this.symm
           · exact h6 off e xs v g (y' ho) h1 h2 hv QD
         · exact h6 off' e' xs' v' g ho l4 mD QD hv
 · have:=h.hB
   refine block k ?_
   rintro rfl
   rcases h.mT k wb with h1 | h1
   · omega
   · exact VN h1
theorem jl {p:PV} {v:Value} (h:Rep S M p v) (FA:(laid p).all PV.one=true):Gm S M (laid p) v.cells:=by
 unfold laid at FA |-;split
 · rename_i e xs
   exact h.cells (p:=.osl e xs) rfl
 · rename_i HM
   split at FA
   · rename_i e xs;exact absurd rfl (HM e xs)
   · exact WW (h.cells (Nh FA))
theorem jm {p:PV} {j:Nat} {e:TypeId} {xs:List PV} (h:(laid p)[j]?=some (.osl e xs)):p=.osl e xs/\j=0:=by
 unfold laid at h;split at h
 · cases j with
   | zero=>simp at h;obtain ⟨rfl,rfl⟩:=h;exact ⟨rfl,rfl⟩
   | succ j=>simp at h
 · exact absurd rfl (Pj _ _ (y6 h) e xs)
theorem bR (h:Sim C D B T S M n st a w) {o:Oper} (hd:∀ k,o.dst=some k->k < n) {al:List (Nat×Loc)} (Hb:Hu M a w al) {call:C4} (draw:Bool) {t:TypeId} {ad x:Operand} (ho:o.op=.store t ad x) {r:OpR}
 (hr:BR C call draw al o st=some r):F5 C D B T S M n a w o r:=by
 intro K Q hK;unfold BR at hr;rw [ho] at hr;simp only at hr;split at hr
 · rename_i id off had
   cases hT:EV C st x t with
   | mk v st1=>
    simp only [hT] at hr;obtain ⟨h1,Yl,Ez,VO⟩:=V6 h x t hT;split at hr
    · rename_i JE
      split at hr
      · rename_i bx Fq
        injection hr with hr
        subst hr;unfold CP at Fq;split at Fq
        · rename_i te cs Jc
          split at Fq
          · rename_i Hr
            injection Fq with Fq
            subst Fq;obtain ⟨hle,Fh⟩:=Hr;have hadr:=h.opd ad;rw [had] at hadr;obtain ⟨b,hm,RQ⟩:=hadr.bp_inv;have rS:Bg st1.bx id=some cs:=by unfold Bg;rw [Jc]
            have Ad:=Iy rS;obtain ⟨b',c,Im,hh,QE,K5,l5⟩:=BoxAt.getT h1 Jc;rw [hm] at Im;injection Im with Im
            subst Im;have oY:=jl Ez Fh;obtain ⟨i,hi,his⟩:=Er JE;have lZ:off+(a.eval x).cells.toList.length<=c.size:=by have:=oY.1;simp;omega
            have CA:=run_storeCells_at C.P b off te (a.eval x).cells.toList 0 c w hh (by simpa using lZ) (fun u hu=>by
             obtain ⟨j,hj,rfl⟩:=List.getElem_of_mem hu;have:=oY.2.1 j (by simpa using hj);simpa using this)
            simp only [Nat.add_zero] at CA;generalize Rt:(c.toList.take off++(a.eval x).cells.toList++c.toList.drop (off+(a.eval x).cells.toList.length)).toArray=cn at CA;have aT:∀ j,(w.setRow b cn).cell? ⟨b,j,none⟩=cn[j]?:=fun j=>cell_of_heap (setRow_heap w b c cn te (0,0) hh) j
            have Yr:∀ j,cn[j]?=if off<=j/\j < off+(laid v).length then (a.eval x).cells[j - off]? else c[j]?:=by
             intro j;rw [<- Rt];simp only [List.getElem?_toArray];have Gk:(a.eval x).cells.toList.length=(laid v).length:=by have:=oY.1;simpa using this
             by_cases k1:j < off
             · rw [if_neg (by omega),y1,yZ (by simp;omega),y4 k1];simp
             · by_cases k2:j < off+(laid v).length
               · rw [if_pos ⟨by omega,k2⟩,y1,yY (by simp;omega),yZ (by simp at Gk |-;omega)]
                 have:(c.toList.take off).length=off:=by simp;omega
                 rw [this];simp
               · rw [if_neg (by omega),yY (by simp at Gk |-;omega),y8]
                 have:(c.toList.take off++(a.eval x).cells.toList).length=off+(laid v).length:=by simp at Gk |-;omega
                 rw [this,Gk,show off+(laid v).length+(j - (off+(laid v).length))=j by omega];simp
            have LY:cn.size=c.size:=by
             rw [<- Rt];have:(a.eval x).cells.toList.length=(laid v).length:=by have:=oY.1;simpa using this
             simp at this |-;omega
            have P9:BoxAt S M (w.setRow b cn) (.cells te (lay cs off (laid v))) b:=by
             have ir:(lay cs off (laid v)).length=cs.length:=by simp [lay];omega
             refine .cells te _ b cn (setRow_heap w b c cn te (0,0) hh) (by omega) (fun j hj=>?_) (fun j hj Ul=>?_)
             · have:=Yr j
               rw [yX hj] at this;split at this
               · rename_i O8
                 rw [yX (by have:=oY.1;omega)] at this;injection this with this
                 rw [this];exact oY.2.1 _ _
               · rw [yX (by omega)] at this
                 injection this with this
                 rw [this];exact K5 _ _
             · have e1:=Yr j
               have e2:=W1 hle j;rw [yX Ul] at e1;rw [yW hj] at e2;split at e1
               · rename_i O8
                 rw [if_pos O8] at e2;rw [yX (by have:=oY.1;omega)] at e1;rw [yW (by omega)] at e2;injection e1 with e1
                 injection e2 with e2
                 rw [e1,e2];exact oY.2.2 _ _ _
               · rename_i O8
                 rw [if_neg O8] at e2;rw [yX (by omega)] at e1;rw [yW (by omega)] at e2;injection e1 with e1
                 injection e2 with e2
                 rw [e1,e2];exact l5 _ _ _
            obtain ⟨hs,hg⟩:=h1.setBoxObj (x:=.cells te (lay cs off (laid v))) hm Ad P9 rfl rfl rfl (by simp [World.setRow]) (fun k hk=>setRow_other w b k cn hk) (fun t' cs' off' e xs u hx hc hu=>by
             injection hx with _ hx
             subst hx;rw [W1 hle] at hc;rw [aT,Yr] at hu;split at hc
             · rename_i O8
               rw [if_pos O8] at hu;obtain ⟨rfl,pW⟩:=jm hc;obtain ⟨o1,o2,o3⟩:=VO e xs rfl
               have xN:u=a.eval x:=by
                rw [pW] at hu;have Dz:(a.eval x).cells=#[a.eval x]:=(Ez.oneCell (p:=.osl e xs) rfl).2;rw [Dz] at hu;simpa using hu.symm
               subst xN;refine .inr ⟨o1,o2,fun l e' xs' u' g _ hl iO=>o3 l e' xs' u' g hl iO,fun off2 e' xs' u' g DZ QC wc hug=>?_⟩
               -- another cell of the box that owns
               rw [W1 hle] at QC;rw [aT,Yr] at wc;have VM:(laid (PV.osl e xs)).length=1:=rfl;rw [VM] at QC wc O8;rw [if_neg (by omega)] at QC wc;refine o3 (.box id off2) e' xs' u' g ⟨cs,b,rS,QC,hm,?_⟩ hug;rw [cell_of_heap hh];exact wc
             · rename_i O8
               rw [if_neg O8] at hu;refine .inl ⟨cs,b,rS,hc,hm,?_⟩;rw [cell_of_heap hh];exact hu)
            have hv:(execOp a.eval o).run C.P w=.ok .skip (w.setRow b cn):=by
             rw [execOp,ho];have hszv:¬ ((a.eval x).cells.size≠i.size):=by have:=oY.1;omega
             simp only [RQ,Instr.storeAt,Instr.sureAddr,storeVar,Sem.run_bind,Sem.run_pure,Result.andThen_ok,C7 hi,if_neg hszv];rw [show (storeCells ⟨b,off,none⟩ (a.eval x).cells.toList:Sem Unit)=storeCells ⟨b,off,none⟩ (a.eval x).cells.toList 0 from rfl];rw [CA];rfl
            unfold Oper.wp;rw [hv];refine hK S M _ _ (hs.put o.dst hd (.und S M) (fun e xs=>by simp [und])) hg (List.prefix_refl _) ?_;intro p iQ;obtain ⟨m1,m2⟩:=FJ iQ;simp only [List.mem_filter] at m1;obtain ⟨m3,m4⟩:=m1;have hc:=Hb p m3;obtain ⟨d',l⟩:=p;cases l with
            | tmp t=>
             simp only [JM] at hc |-;rw [Dv h.size hd _ (fun k hk=>(m2 k hk).1),Dv h.size hd _ (fun k hk=>by simpa using (m2 k hk).2)];exact hc
            | box id' off'=>
             obtain ⟨b2,e1,e2⟩:=hc;have DZ:id'≠id:=by simpa using m4
             refine ⟨b2,e1,?_⟩;rw [Dv h.size hd _ (fun k hk=>(m2 k hk).1)]
             have xO:b2≠b:=by
              rintro rfl
              have q1:id' < M.length:=by
               rcases y3 id' M.length with h | h
               · exact h
               · rw [y0 h] at e1;cases e1
              have q2:id < M.length:=by
               rcases y3 id M.length with h | h
               · exact h
               · rw [y0 h] at hm;cases hm
              rw [yW q1] at e1;rw [yW q2] at hm;injection e1 with e1
              injection hm with hm
              exact DZ ((y9 h.nodup).1 (e1.trans hm.symm))
             rw [y2 (a:=⟨b2,off',none⟩) (setRow_other w b b2 cn xO)];exact e2
          · cases Fq
        · cases Fq
      · cases hr
    · cases hr
 · cases hr
end
end Go.HH
