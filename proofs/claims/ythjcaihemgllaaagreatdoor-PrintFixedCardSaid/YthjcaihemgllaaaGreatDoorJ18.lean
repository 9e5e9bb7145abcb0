/-
  What the law needs, packed: Step9.
-/
import Derived.Test.YthjcaihemgllaaaGreatDoorJ17
open List renaming getElem?_eq_getElem->Aa0,getElem?_append_right->Aa2,getElem?_append_left->Aa3,getElem?_eq_none->Aa4,append_assoc->Aa5,getElem?_take_of_lt->Aa8,getElem?_set_self->Aa9,mem_of_getElem?->Aaa,getElem?_set_ne->Aab,getElem?_drop->Aac,getElem_inj->Aad
open Array renaming getElem?_eq_getElem->Aa1
open Go.World renaming cell?_of_block->Aa6
open Nat renaming lt_or_ge->Aa7
namespace Go.HH
open Go Go.RowKit
section
variable {C:Cfg} {D:List Deferred} {B:Nat} {T:Nat->Prop} {S:AI} {M:List Nat} {n:Nat} {st:St} {a:Act} {w:World}
theorem VT {cells ps:List PV} {off:Nat} (h:off+ps.length<=cells.length) (i:Nat) :
 (lay cells off ps)[i]?=if off<=i/\i < off+ps.length then ps[i - off]? else cells[i]?:=by
 unfold lay;by_cases c1:i < off
 · rw [if_neg (by omega),Aa5,Aa3 (by simp;omega),Aa8 c1]
 · by_cases c2:i < off+ps.length
   · rw [if_pos ⟨by omega,c2⟩,Aa5,Aa2 (by simp;omega),Aa3 (by simp;omega)]
     congr 1
     simp;omega
   · rw [if_neg (by omega),Aa2 (by simp;omega),Aac]
     congr 1
     simp;omega
theorem Sim.setBoxObj (h:Sim C D B T S M n st a w) {id:Nat} {b:Nat} (hm:M[id]?=some b) (hid:id < st.bx.length) {x:PBox} {w':World} (OT:BoxAt S M w' x b)
 (os:w'.os=w.os) (tape:w'.tape=w.tape) (output:w'.output=w.output) (size:w.heap.size=w'.heap.size) (block:∀ k,k≠b->w'.heap[k]?=w.heap[k]?)
 (K1:∀ t cs off e xs v,x=.cells t cs->cs[off]?=some (.osl e xs)->w'.cell? ⟨b,off,none⟩=some v ->
  (LocAt st M a w (.box id off) (.osl e xs) v) \/
  (OwnAt C.P S M w e xs v/\(∀ g,v.ownBlock=some g->B<=g\/T g)/\(∀ l e' xs' u g,l≠.box id off->LocAt st M a w l (.osl e' xs') u->u.ownBlock=some g->v.ownBlock≠some g) /\
   ∀ off' e' xs' u g,off'≠off->cs[off']?=some (.osl e' xs')->w'.cell? ⟨b,off',none⟩=some u->u.ownBlock=some g->v.ownBlock≠some g)) :
 Sim C D B T S M n ⟨st.env,st.bx.set id x⟩ a w'/\Grows B T S w S w':=by
 have yL:b ∈ M:=Aaa hm
 have Dz:∀ id' b',id'≠id->M[id']?=some b'->b'≠b:=by
  intro id' b' hi dY e;subst e
  have h1:id' < M.length:=by
   rcases Aa7 id' M.length with h | h
   · exact h
   · rw [Aa4 h] at dY;cases dY
  have h2:id < M.length:=by
   rcases Aa7 id M.length with h | h
   · exact h
   · rw [Aa4 h] at hm;cases hm
  rw [Aa0 h1] at dY;rw [Aa0 h2] at hm;injection dY with dY
  injection hm with hm
  exact hi ((Aad h.nodup).1 (dY.trans hm.symm))
 -- a place that owns,now
 have loc:∀ l e xs v,LocAt ⟨st.env,st.bx.set id x⟩ M a w' l (.osl e xs) v ->
  (LocAt st M a w l (.osl e xs) v)\/(∃ off t cs,l=.box id off/\x=.cells t cs/\cs[off]?=some (.osl e xs)/\w'.cell? ⟨b,off,none⟩=some v):=by
  intro l e xs v hl;cases l with
  | tmp t=>exact .inl hl
  | box id' off=>
   obtain ⟨cs,b',h1,h2,h3,h4⟩:=hl;by_cases hi:id'=id
   · subst hi
     rw [hm] at h3;injection h3 with h3
     subst h3;unfold A0 at h1;simp only at h1;rw [Aa9 hid] at h1;split at h1
     · rename_i c heq
       injection h1 with h1
       injection heq with heq
       subst h1;exact .inr ⟨off,_,c,rfl,heq,h2,h4⟩
     · cases h1
   · refine .inl ⟨cs,b',?_,h2,h3,?_⟩
     · unfold A0 at h1 |-
       simp only at h1;rw [Aab (Ne.symm hi)] at h1;exact h1
     · rw [<- h4]
       exact (Aa6 (a:=⟨b',off,none⟩) (block b' (Dz id' b' hi h3))).symm
 have ownEq:∀ l e xs v,LocAt ⟨st.env,st.bx.set id x⟩ M a w' l (.osl e xs) v->OwnAt C.P S M w e xs v/\∀ g,v.ownBlock=some g->B<=g\/T g:=by
  intro l e xs v hl;rcases loc l e xs v hl with hl | ⟨off,t,cs,rfl,hx,h1,h2⟩
  · exact h.own l e xs v hl
  · rcases K1 t cs off e xs v hx h1 h2 with hl | ⟨h3,h4,_⟩
    · exact h.own _ e xs v hl
    · exact ⟨h3,h4⟩
 refine ⟨⟨fun b' o v hv=>?_,h.glob,h.gw.keep (fun k hk Ur=>block k (fun e=>by subst e;rcases h.mT k yL with h | h;omega;exact Ur h)),h.size,h.dfr,h.env,by simpa using h.mlen,fun id' y hy=>?_,h.nodup,h.mS,h.mT,by rw [<- size];exact h.hB,fun l e xs v hl=>?_,fun l l' e e' xs xs' v v' g hl D4 hv Pm=>?_⟩,os,tape,output,by omega,fun k hk Ur=>?_,AI.le.refl _,fun _ _ _ _=>rfl⟩
 · have hb:b'≠b:=by rintro rfl;rw [h.mS b' yL] at hv;cases hv
   rw [Aa6 (a:=⟨b',o,none⟩) (block b' hb)];exact h.holds b' o v hv
 · by_cases hi:id'=id
   · subst hi
     simp only at hy;rw [Aa9 hid] at hy;injection hy with hy
     subst hy;exact ⟨b,hm,OT⟩
   · simp only at hy
     rw [Aab (Ne.symm hi)] at hy;obtain ⟨b',h1,h2⟩:=h.boxes id' y hy;exact ⟨b',h1,h2.kept (AI.le.refl _) (block b' (Dz id' b' hi h1))⟩
 · obtain ⟨h1,h2⟩:=ownEq l e xs v hl
   refine ⟨h1.kept fun g hg=>⟨block g ?_,fun _=>rfl⟩,h2⟩;obtain ⟨i,vals,_,_,_,h3⟩:=h1
   rintro rfl
   exact (h3 g hg).1 yL
 · rcases loc l e xs v hl with bQ | ⟨off,t,cs,rfl,hx,h1,h2⟩
   · rcases loc l' e' xs' v' D4 with HP | ⟨off',t',cs',rfl,Hw,re,mP⟩
     · exact h.apart l l' e e' xs xs' v v' g bQ HP hv Pm
     · rcases K1 t' cs' off' e' xs' v' Hw re mP with HP | ⟨_,_,h5,_⟩
       · exact h.apart l _ e e' xs xs' v v' g bQ HP hv Pm
       · by_cases ee:l=.box id off'
         · exact ee
         · exact absurd Pm (h5 l e xs v g ee bQ hv)
   · rcases loc l' e' xs' v' D4 with HP | ⟨off',t',cs',rfl,Hw,re,mP⟩
     · rcases K1 t cs off e xs v hx h1 h2 with bQ | ⟨_,_,h5,_⟩
       · exact h.apart _ l' e e' xs xs' v v' g bQ HP hv Pm
       · by_cases ee:l'=.box id off
         · exact ee.symm
         · exact absurd hv (h5 l' e' xs' v' g ee HP Pm)
     · rw [hx] at Hw
       injection Hw with _ Hw
       subst Hw;by_cases ho:off'=off
       · rw [ho]
       · exfalso
         rcases K1 t cs off e xs v hx h1 h2 with bQ | ⟨_,_,_,h6⟩
         · rcases K1 _ cs off' e' xs' v' hx re mP with HP | ⟨_,_,_,h6⟩
           · have:=h.apart _ _ e e' xs xs' v v' g bQ HP hv Pm
             injection this with _ this
             exact ho this.symm
           · exact h6 off e xs v g (Ne.symm ho) h1 h2 hv Pm
         · exact h6 off' e' xs' v' g ho re mP Pm hv
 · have:=h.hB
   refine block k ?_
   rintro rfl
   rcases h.mT k yL with h1 | h1
   · omega
   · exact Ur h1
theorem iz {p:PV} {v:Value} (h:Rep S M p v) (D1:(laid p).all PV.one=true):FG S M (laid p) v.cells:=by
 unfold laid at D1 |-;split
 · rename_i e xs
   exact h.cells (p:=.osl e xs) rfl
 · rename_i GU
   split at D1
   · rename_i e xs;exact absurd rfl (GU e xs)
   · exact VO (h.cells (LY D1))
theorem iA {p:PV} {j:Nat} {e:TypeId} {xs:List PV} (h:(laid p)[j]?=some (.osl e xs)):p=.osl e xs/\j=0:=by
 unfold laid at h;split at h
 · cases j with
   | zero=>simp at h;obtain ⟨rfl,rfl⟩:=h;exact ⟨rfl,rfl⟩
   | succ j=>simp at h
 · exact absurd rfl (NO _ _ (Aaa h) e xs)
theorem Z0 (h:Sim C D B T S M n st a w) {o:Oper} (hd:∀ k,o.dst=some k->k < n) {al:List (Nat×Loc)} (Gs:GJ M a w al) {call:Cl} (draw:Bool) {t:TypeId} {ad x:Operand} (ho:o.op=.store t ad x) {r:OpR}
 (hr:Bp C call draw al o st=some r):Fj C D B T S M n a w o r:=by
 intro K Q hK;unfold Bp at hr;rw [ho] at hr;simp only at hr;split at hr
 · rename_i id off had
   cases hT:D9 C st x t with
   | mk v st1=>
    simp only [hT] at hr;obtain ⟨h1,J8,DL,Us⟩:=UM h x t hT;split at hr
    · rename_i IV
      split at hr
      · rename_i bx Ez
        injection hr with hr
        subst hr;unfold BK at Ez;split at Ez
        · rename_i te cs JI
          split at Ez
          · rename_i GH
            injection Ez with Ez
            subst Ez;obtain ⟨hle,Qn⟩:=GH;have hadr:=h.opd ad;rw [had] at hadr;obtain ⟨b,hm,QK⟩:=hadr.bp_inv;have uq:A0 st1.bx id=some cs:=by unfold A0;rw [JI]
            have hid:=HD uq;obtain ⟨b',c,Hv,hh,Mw,Qm,mq⟩:=BoxAt.getT h1 JI;rw [hm] at Hv;injection Hv with Hv
            subst Hv;have pK:=iz DL Qn;obtain ⟨i,hi,his⟩:=DP IV;have ml:off+(a.eval x).cells.toList.length<=c.size:=by have:=pK.1;simp;omega
            have BW:=run_storeCells_at C.P b off te (a.eval x).cells.toList 0 c w hh (by simpa using ml) (fun u hu=>by
             obtain ⟨j,hj,rfl⟩:=List.getElem_of_mem hu;have:=pK.2.1 j (by simpa using hj);simpa using this)
            simp only [Nat.add_zero] at BW;generalize Ql:(c.toList.take off++(a.eval x).cells.toList++c.toList.drop (off+(a.eval x).cells.toList.length)).toArray=cn at BW;have Zi:∀ j,(w.setRow b cn).cell? ⟨b,j,none⟩=cn[j]?:=fun j=>cell_of_heap (setRow_heap w b c cn te (0,0) hh) j
            have Xm:∀ j,cn[j]?=if off<=j/\j < off+(laid v).length then (a.eval x).cells[j - off]? else c[j]?:=by
             intro j;rw [<- Ql];simp only [List.getElem?_toArray];have HP:(a.eval x).cells.toList.length=(laid v).length:=by have:=pK.1;simpa using this
             by_cases k1:j < off
             · rw [if_neg (by omega),Aa5,Aa3 (by simp;omega),Aa8 k1];simp
             · by_cases k2:j < off+(laid v).length
               · rw [if_pos ⟨by omega,k2⟩,Aa5,Aa2 (by simp;omega),Aa3 (by simp at HP |-;omega)]
                 have:(c.toList.take off).length=off:=by simp;omega
                 rw [this];simp
               · rw [if_neg (by omega),Aa2 (by simp at HP |-;omega),Aac]
                 have:(c.toList.take off++(a.eval x).cells.toList).length=off+(laid v).length:=by simp at HP |-;omega
                 rw [this,HP,show off+(laid v).length+(j - (off+(laid v).length))=j by omega];simp
            have hcn:cn.size=c.size:=by
             rw [<- Ql];have:(a.eval x).cells.toList.length=(laid v).length:=by have:=pK.1;simpa using this
             simp at this |-;omega
            have OT:BoxAt S M (w.setRow b cn) (.cells te (lay cs off (laid v))) b:=by
             have ee:(lay cs off (laid v)).length=cs.length:=by simp [lay];omega
             refine .cells te _ b cn (setRow_heap w b c cn te (0,0) hh) (by omega) (fun j hj=>?_) (fun j hj gT=>?_)
             · have:=Xm j
               rw [Aa1 hj] at this;split at this
               · rename_i NH
                 rw [Aa1 (by have:=pK.1;omega)] at this;injection this with this
                 rw [this];exact pK.2.1 _ _
               · rw [Aa1 (by omega)] at this
                 injection this with this
                 rw [this];exact Qm _ _
             · have e1:=Xm j
               have e2:=VT hle j;rw [Aa1 gT] at e1;rw [Aa0 hj] at e2;split at e1
               · rename_i NH
                 rw [if_pos NH] at e2;rw [Aa1 (by have:=pK.1;omega)] at e1;rw [Aa0 (by omega)] at e2;injection e1 with e1
                 injection e2 with e2
                 rw [e1,e2];exact pK.2.2 _ _ _
               · rename_i NH
                 rw [if_neg NH] at e2;rw [Aa1 (by omega)] at e1;rw [Aa0 (by omega)] at e2;injection e1 with e1
                 injection e2 with e2
                 rw [e1,e2];exact mq _ _ _
            obtain ⟨hs,hg⟩:=h1.setBoxObj (x:=.cells te (lay cs off (laid v))) hm hid OT rfl rfl rfl (by simp [World.setRow]) (fun k hk=>setRow_other w b k cn hk) (fun t' cs' off' e xs u hx hc hu=>by
             injection hx with _ hx
             subst hx;rw [VT hle] at hc;rw [Zi,Xm] at hu;split at hc
             · rename_i NH
               rw [if_pos NH] at hu;obtain ⟨rfl,rf⟩:=iA hc;obtain ⟨o1,o2,o3⟩:=Us e xs rfl
               have huv:u=a.eval x:=by
                rw [rf] at hu;have CU:(a.eval x).cells=#[a.eval x]:=(DL.oneCell (p:=.osl e xs) rfl).2;rw [CU] at hu;simpa using hu.symm
               subst huv;refine .inr ⟨o1,o2,fun l e' xs' u' g _ hl hF=>o3 l e' xs' u' g hl hF,fun off2 e' xs' u' g Dz SY yM hug=>?_⟩
               -- another cell of the box that owns
               rw [VT hle] at SY;rw [Zi,Xm] at yM;have bQ:(laid (PV.osl e xs)).length=1:=rfl;rw [bQ] at SY yM NH;rw [if_neg (by omega)] at SY yM;refine o3 (.box id off2) e' xs' u' g ⟨cs,b,uq,SY,hm,?_⟩ hug;rw [cell_of_heap hh];exact yM
             · rename_i NH
               rw [if_neg NH] at hu;refine .inl ⟨cs,b,uq,hc,hm,?_⟩;rw [cell_of_heap hh];exact hu)
            have hv:(execOp a.eval o).run C.P w=.ok .skip (w.setRow b cn):=by
             rw [execOp,ho];have hszv:¬ ((a.eval x).cells.size≠i.size):=by have:=pK.1;omega
             simp only [QK,Instr.storeAt,Instr.sureAddr,storeVar,Sem.run_bind,Sem.run_pure,Result.andThen_ok,Cs hi,if_neg hszv];rw [show (storeCells ⟨b,off,none⟩ (a.eval x).cells.toList:Sem Unit)=storeCells ⟨b,off,none⟩ (a.eval x).cells.toList 0 from rfl];rw [BW];rfl
            unfold Oper.wp;rw [hv];refine hK S M _ _ (hs.put o.dst hd (.und S M) (fun e xs=>by simp [und])) hg (List.prefix_refl _) ?_;intro p ek;obtain ⟨m1,m2⟩:=EU ek;simp only [List.mem_filter] at m1;obtain ⟨m3,m4⟩:=m1;have hc:=Gs p m3;obtain ⟨d',l⟩:=p;cases l with
            | tmp t=>
             simp only [IZ] at hc |-;rw [CP h.size hd _ (fun k hk=>(m2 k hk).1),CP h.size hd _ (fun k hk=>by simpa using (m2 k hk).2)];exact hc
            | box id' off'=>
             obtain ⟨b2,e1,e2⟩:=hc;have Dz:id'≠id:=by simpa using m4
             refine ⟨b2,e1,?_⟩;rw [CP h.size hd _ (fun k hk=>(m2 k hk).1)]
             have hbb:b2≠b:=by
              rintro rfl
              have q1:id' < M.length:=by
               rcases Aa7 id' M.length with h | h
               · exact h
               · rw [Aa4 h] at e1;cases e1
              have q2:id < M.length:=by
               rcases Aa7 id M.length with h | h
               · exact h
               · rw [Aa4 h] at hm;cases hm
              rw [Aa0 q1] at e1;rw [Aa0 q2] at hm;injection e1 with e1
              injection hm with hm
              exact Dz ((Aad h.nodup).1 (e1.trans hm.symm))
             rw [Aa6 (a:=⟨b2,off',none⟩) (setRow_other w b b2 cn hbb)];exact e2
          · cases Ez
        · cases Ez
      · cases hr
    · cases hr
 · cases hr
end
end Go.HH
