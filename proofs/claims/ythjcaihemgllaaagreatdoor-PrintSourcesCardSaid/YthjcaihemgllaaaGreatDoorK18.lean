/-
  What the law needs, packed: Step9.
-/
import Derived.Test.YthjcaihemgllaaaGreatDoorK17
open List renaming getElem?_eq_getElem->Aau,getElem?_append_right->Aaw,getElem?_append_left->Aax,getElem?_eq_none->Aay,append_assoc->Aaz,getElem?_take_of_lt->Ab2,getElem?_set_self->Ab3,mem_of_getElem?->Ab4,getElem?_set_ne->Ab5,getElem?_drop->Ab6,getElem_inj->Ab7
open Array renaming getElem?_eq_getElem->Aav
open Go.World renaming cell?_of_block->Ab0
open Nat renaming lt_or_ge->Ab1
namespace Go.HH
open Go Go.RowKit
section
variable {C:Cfg} {D:List Deferred} {B:Nat} {T:Nat->Prop} {S:AJ} {M:List Nat} {n:Nat} {st:St} {a:Act} {w:World}
theorem V6 {cells ps:List PV} {off:Nat} (h:off+ps.length<=cells.length) (i:Nat) :
 (lay cells off ps)[i]?=if off<=i/\i < off+ps.length then ps[i - off]? else cells[i]?:=by
 unfold lay;by_cases c1:i < off
 · rw [if_neg (by omega),Aaz,Aax (by simp;omega),Ab2 c1]
 · by_cases c2:i < off+ps.length
   · rw [if_pos ⟨by omega,c2⟩,Aaz,Aaw (by simp;omega),Aax (by simp;omega)]
     congr 1
     simp;omega
   · rw [if_neg (by omega),Aaw (by simp;omega),Ab6]
     congr 1
     simp;omega
theorem Sim.setBoxObj (h:Sim C D B T S M n st a w) {id:Nat} {b:Nat} (hm:M[id]?=some b) (hid:id < st.bx.length) {x:PBox} {w':World} (O4:BoxAt S M w' x b)
 (os:w'.os=w.os) (tape:w'.tape=w.tape) (output:w'.output=w.output) (size:w.heap.size=w'.heap.size) (block:∀ k,k≠b->w'.heap[k]?=w.heap[k]?)
 (K8:∀ t cs off e xs v,x=.cells t cs->cs[off]?=some (.osl e xs)->w'.cell? ⟨b,off,none⟩=some v ->
  (LocAt st M a w (.box id off) (.osl e xs) v) \/
  (OwnAt C.P S M w e xs v/\(∀ g,v.ownBlock=some g->B<=g\/T g)/\(∀ l e' xs' u g,l≠.box id off->LocAt st M a w l (.osl e' xs') u->u.ownBlock=some g->v.ownBlock≠some g) /\
   ∀ off' e' xs' u g,off'≠off->cs[off']?=some (.osl e' xs')->w'.cell? ⟨b,off',none⟩=some u->u.ownBlock=some g->v.ownBlock≠some g)) :
 Sim C D B T S M n ⟨st.env,st.bx.set id x⟩ a w'/\Grows B T S w S w':=by
 have zj:b ∈ M:=Ab4 hm
 have Dx:∀ id' b',id'≠id->M[id']?=some b'->b'≠b:=by
  intro id' b' hi eH e;subst e
  have h1:id' < M.length:=by
   rcases Ab1 id' M.length with h | h
   · exact h
   · rw [Aay h] at eH;cases eH
  have h2:id < M.length:=by
   rcases Ab1 id M.length with h | h
   · exact h
   · rw [Aay h] at hm;cases hm
  rw [Aau h1] at eH;rw [Aau h2] at hm;injection eH with eH
  injection hm with hm
  exact hi ((Ab7 h.nodup).1 (eH.trans hm.symm))
 -- a place that owns,now
 have loc:∀ l e xs v,LocAt ⟨st.env,st.bx.set id x⟩ M a w' l (.osl e xs) v ->
  (LocAt st M a w l (.osl e xs) v)\/(∃ off t cs,l=.box id off/\x=.cells t cs/\cs[off]?=some (.osl e xs)/\w'.cell? ⟨b,off,none⟩=some v):=by
  intro l e xs v hl;cases l with
  | tmp t=>exact .inl hl
  | box id' off=>
   obtain ⟨cs,b',h1,h2,h3,h4⟩:=hl;by_cases hi:id'=id
   · subst hi
     rw [hm] at h3;injection h3 with h3
     subst h3;unfold A0 at h1;simp only at h1;rw [Ab3 hid] at h1;split at h1
     · rename_i c heq
       injection h1 with h1
       injection heq with heq
       subst h1;exact .inr ⟨off,_,c,rfl,heq,h2,h4⟩
     · cases h1
   · refine .inl ⟨cs,b',?_,h2,h3,?_⟩
     · unfold A0 at h1 |-
       simp only at h1;rw [Ab5 (Ne.symm hi)] at h1;exact h1
     · rw [<- h4]
       exact (Ab0 (a:=⟨b',off,none⟩) (block b' (Dx id' b' hi h3))).symm
 have ownEq:∀ l e xs v,LocAt ⟨st.env,st.bx.set id x⟩ M a w' l (.osl e xs) v->OwnAt C.P S M w e xs v/\∀ g,v.ownBlock=some g->B<=g\/T g:=by
  intro l e xs v hl;rcases loc l e xs v hl with hl | ⟨off,t,cs,rfl,hx,h1,h2⟩
  · exact h.own l e xs v hl
  · rcases K8 t cs off e xs v hx h1 h2 with hl | ⟨h3,h4,_⟩
    · exact h.own _ e xs v hl
    · exact ⟨h3,h4⟩
 refine ⟨⟨fun b' o v hv=>?_,h.glob,h.gw.keep (fun k hk UD=>block k (fun e=>by subst e;rcases h.mT k zj with h | h;omega;exact UD h)),h.size,h.dfr,h.env,by simpa using h.mlen,fun id' y hy=>?_,h.nodup,h.mS,h.mT,by rw [<- size];exact h.hB,fun l e xs v hl=>?_,fun l l' e e' xs xs' v v' g hl D3 hv Pz=>?_⟩,os,tape,output,by omega,fun k hk UD=>?_,AJ.le.refl _,fun _ _ _ _=>rfl⟩
 · have hb:b'≠b:=by rintro rfl;rw [h.mS b' zj] at hv;cases hv
   rw [Ab0 (a:=⟨b',o,none⟩) (block b' hb)];exact h.holds b' o v hv
 · by_cases hi:id'=id
   · subst hi
     simp only at hy;rw [Ab3 hid] at hy;injection hy with hy
     subst hy;exact ⟨b,hm,O4⟩
   · simp only at hy
     rw [Ab5 (Ne.symm hi)] at hy;obtain ⟨b',h1,h2⟩:=h.boxes id' y hy;exact ⟨b',h1,h2.kept (AJ.le.refl _) (block b' (Dx id' b' hi h1))⟩
 · obtain ⟨h1,h2⟩:=ownEq l e xs v hl
   refine ⟨h1.kept fun g hg=>⟨block g ?_,fun _=>rfl⟩,h2⟩;obtain ⟨i,vals,_,_,_,h3⟩:=h1
   rintro rfl
   exact (h3 g hg).1 zj
 · rcases loc l e xs v hl with cy | ⟨off,t,cs,rfl,hx,h1,h2⟩
   · rcases loc l' e' xs' v' D3 with HT | ⟨off',t',cs',rfl,Gz,rS,iE⟩
     · exact h.apart l l' e e' xs xs' v v' g cy HT hv Pz
     · rcases K8 t' cs' off' e' xs' v' Gz rS iE with HT | ⟨_,_,h5,_⟩
       · exact h.apart l _ e e' xs xs' v v' g cy HT hv Pz
       · by_cases eK:l=.box id off'
         · exact eK
         · exact absurd Pz (h5 l e xs v g eK cy hv)
   · rcases loc l' e' xs' v' D3 with HT | ⟨off',t',cs',rfl,Gz,rS,iE⟩
     · rcases K8 t cs off e xs v hx h1 h2 with cy | ⟨_,_,h5,_⟩
       · exact h.apart _ l' e e' xs xs' v v' g cy HT hv Pz
       · by_cases eK:l'=.box id off
         · exact eK.symm
         · exact absurd hv (h5 l' e' xs' v' g eK HT Pz)
     · rw [hx] at Gz
       injection Gz with _ Gz
       subst Gz;by_cases ho:off'=off
       · rw [ho]
       · exfalso
         rcases K8 t cs off e xs v hx h1 h2 with cy | ⟨_,_,_,h6⟩
         · rcases K8 _ cs off' e' xs' v' hx rS iE with HT | ⟨_,_,_,h6⟩
           · have:=h.apart _ _ e e' xs xs' v v' g cy HT hv Pz
             injection this with _ this
             exact ho this.symm
           · exact h6 off e xs v g (Ne.symm ho) h1 h2 hv Pz
         · exact h6 off' e' xs' v' g ho rS iE Pz hv
 · have:=h.hB
   refine block k ?_
   rintro rfl
   rcases h.mT k zj with h1 | h1
   · omega
   · exact UD h1
theorem iY {p:PV} {v:Value} (h:Rep S M p v) (D1:(laid p).all PV.one=true):FG S M (laid p) v.cells:=by
 unfold laid at D1 |-;split
 · rename_i e xs
   exact h.cells (p:=.osl e xs) rfl
 · rename_i G0
   split at D1
   · rename_i e xs;exact absurd rfl (G0 e xs)
   · exact V1 (h.cells (L7 D1))
theorem iZ {p:PV} {j:Nat} {e:TypeId} {xs:List PV} (h:(laid p)[j]?=some (.osl e xs)):p=.osl e xs/\j=0:=by
 unfold laid at h;split at h
 · cases j with
   | zero=>simp at h;obtain ⟨rfl,rfl⟩:=h;exact ⟨rfl,rfl⟩
   | succ j=>simp at h
 · exact absurd rfl (NY _ _ (Ab4 h) e xs)
theorem az (h:Sim C D B T S M n st a w) {o:Oper} (hd:∀ k,o.dst=some k->k < n) {al:List (Nat×Loc)} (FF:GK M a w al) {call:Cn} (draw:Bool) {t:TypeId} {ad x:Operand} (ho:o.op=.store t ad x) {r:OpR}
 (hr:Bq C call draw al o st=some r):Fg C D B T S M n a w o r:=by
 intro K Q hK;unfold Bq at hr;rw [ho] at hr;simp only at hr;split at hr
 · rename_i id off had
   cases hT:D8 C st x t with
   | mk v st1=>
    simp only [hT] at hr;obtain ⟨h1,Kf,DJ,UE⟩:=U1 h x t hT;split at hr
    · rename_i I4
      split at hr
      · rename_i bx EC
        injection hr with hr
        subst hr;unfold BK at EC;split at EC
        · rename_i te cs JQ
          split at EC
          · rename_i GI
            injection EC with EC
            subst EC;obtain ⟨hle,QA⟩:=GI;have hadr:=h.opd ad;rw [had] at hadr;obtain ⟨b,hm,QU⟩:=hadr.bp_inv;have u6:A0 st1.bx id=some cs:=by unfold A0;rw [JQ]
            have hid:=HI u6;obtain ⟨b',c,HA,hh,MA,Qz,mX⟩:=BoxAt.getT h1 JQ;rw [hm] at HA;injection HA with HA
            subst HA;have qC:=iY DJ QA;obtain ⟨i,hi,his⟩:=DO I4;have mR:off+(a.eval x).cells.toList.length<=c.size:=by have:=qC.1;simp;omega
            have BV:=run_storeCells_at C.P b off te (a.eval x).cells.toList 0 c w hh (by simpa using mR) (fun u hu=>by
             obtain ⟨j,hj,rfl⟩:=List.getElem_of_mem hu;have:=qC.2.1 j (by simpa using hj);simpa using this)
            simp only [Nat.add_zero] at BV;generalize Qx:(c.toList.take off++(a.eval x).cells.toList++c.toList.drop (off+(a.eval x).cells.toList.length)).toArray=cn at BV;have Zz:∀ j,(w.setRow b cn).cell? ⟨b,j,none⟩=cn[j]?:=fun j=>cell_of_heap (setRow_heap w b c cn te (0,0) hh) j
            have XD:∀ j,cn[j]?=if off<=j/\j < off+(laid v).length then (a.eval x).cells[j - off]? else c[j]?:=by
             intro j;rw [<- Qx];simp only [List.getElem?_toArray];have HT:(a.eval x).cells.toList.length=(laid v).length:=by have:=qC.1;simpa using this
             by_cases k1:j < off
             · rw [if_neg (by omega),Aaz,Aax (by simp;omega),Ab2 k1];simp
             · by_cases k2:j < off+(laid v).length
               · rw [if_pos ⟨by omega,k2⟩,Aaz,Aaw (by simp;omega),Aax (by simp at HT |-;omega)]
                 have:(c.toList.take off).length=off:=by simp;omega
                 rw [this];simp
               · rw [if_neg (by omega),Aaw (by simp at HT |-;omega),Ab6]
                 have:(c.toList.take off++(a.eval x).cells.toList).length=off+(laid v).length:=by simp at HT |-;omega
                 rw [this,HT,show off+(laid v).length+(j - (off+(laid v).length))=j by omega];simp
            have hcn:cn.size=c.size:=by
             rw [<- Qx];have:(a.eval x).cells.toList.length=(laid v).length:=by have:=qC.1;simpa using this
             simp at this |-;omega
            have O4:BoxAt S M (w.setRow b cn) (.cells te (lay cs off (laid v))) b:=by
             have eK:(lay cs off (laid v)).length=cs.length:=by simp [lay];omega
             refine .cells te _ b cn (setRow_heap w b c cn te (0,0) hh) (by omega) (fun j hj=>?_) (fun j hj ir=>?_)
             · have:=XD j
               rw [Aav hj] at this;split at this
               · rename_i NQ
                 rw [Aav (by have:=qC.1;omega)] at this;injection this with this
                 rw [this];exact qC.2.1 _ _
               · rw [Aav (by omega)] at this
                 injection this with this
                 rw [this];exact Qz _ _
             · have e1:=XD j
               have e2:=V6 hle j;rw [Aav ir] at e1;rw [Aau hj] at e2;split at e1
               · rename_i NQ
                 rw [if_pos NQ] at e2;rw [Aav (by have:=qC.1;omega)] at e1;rw [Aau (by omega)] at e2;injection e1 with e1
                 injection e2 with e2
                 rw [e1,e2];exact qC.2.2 _ _ _
               · rename_i NQ
                 rw [if_neg NQ] at e2;rw [Aav (by omega)] at e1;rw [Aau (by omega)] at e2;injection e1 with e1
                 injection e2 with e2
                 rw [e1,e2];exact mX _ _ _
            obtain ⟨hs,hg⟩:=h1.setBoxObj (x:=.cells te (lay cs off (laid v))) hm hid O4 rfl rfl rfl (by simp [World.setRow]) (fun k hk=>setRow_other w b k cn hk) (fun t' cs' off' e xs u hx hc hu=>by
             injection hx with _ hx
             subst hx;rw [V6 hle] at hc;rw [Zz,XD] at hu;split at hc
             · rename_i NQ
               rw [if_pos NQ] at hu;obtain ⟨rfl,rT⟩:=iZ hc;obtain ⟨o1,o2,o3⟩:=UE e xs rfl
               have huv:u=a.eval x:=by
                rw [rT] at hu;have CU:(a.eval x).cells=#[a.eval x]:=(DJ.oneCell (p:=.osl e xs) rfl).2;rw [CU] at hu;simpa using hu.symm
               subst huv;refine .inr ⟨o1,o2,fun l e' xs' u' g _ hl iC=>o3 l e' xs' u' g hl iC,fun off2 e' xs' u' g Dx Tf zl hug=>?_⟩
               -- another cell of the box that owns
               rw [V6 hle] at Tf;rw [Zz,XD] at zl;have cy:(laid (PV.osl e xs)).length=1:=rfl;rw [cy] at Tf zl NQ;rw [if_neg (by omega)] at Tf zl;refine o3 (.box id off2) e' xs' u' g ⟨cs,b,u6,Tf,hm,?_⟩ hug;rw [cell_of_heap hh];exact zl
             · rename_i NQ
               rw [if_neg NQ] at hu;refine .inl ⟨cs,b,u6,hc,hm,?_⟩;rw [cell_of_heap hh];exact hu)
            have hv:(execOp a.eval o).run C.P w=.ok .skip (w.setRow b cn):=by
             rw [execOp,ho];have hszv:¬ ((a.eval x).cells.size≠i.size):=by have:=qC.1;omega
             simp only [QU,Instr.storeAt,Instr.sureAddr,storeVar,Sem.run_bind,Sem.run_pure,Result.andThen_ok,Ct hi,if_neg hszv];rw [show (storeCells ⟨b,off,none⟩ (a.eval x).cells.toList:Sem Unit)=storeCells ⟨b,off,none⟩ (a.eval x).cells.toList 0 from rfl];rw [BV];rfl
            unfold Oper.wp;rw [hv];refine hK S M _ _ (hs.put o.dst hd (.und S M) (fun e xs=>by simp [und])) hg (List.prefix_refl _) ?_;intro p eP;obtain ⟨m1,m2⟩:=EU eP;simp only [List.mem_filter] at m1;obtain ⟨m3,m4⟩:=m1;have hc:=FF p m3;obtain ⟨d',l⟩:=p;cases l with
            | tmp t=>
             simp only [I9] at hc |-;rw [CP h.size hd _ (fun k hk=>(m2 k hk).1),CP h.size hd _ (fun k hk=>by simpa using (m2 k hk).2)];exact hc
            | box id' off'=>
             obtain ⟨b2,e1,e2⟩:=hc;have Dx:id'≠id:=by simpa using m4
             refine ⟨b2,e1,?_⟩;rw [CP h.size hd _ (fun k hk=>(m2 k hk).1)]
             have hbb:b2≠b:=by
              rintro rfl
              have q1:id' < M.length:=by
               rcases Ab1 id' M.length with h | h
               · exact h
               · rw [Aay h] at e1;cases e1
              have q2:id < M.length:=by
               rcases Ab1 id M.length with h | h
               · exact h
               · rw [Aay h] at hm;cases hm
              rw [Aau q1] at e1;rw [Aau q2] at hm;injection e1 with e1
              injection hm with hm
              exact Dx ((Ab7 h.nodup).1 (e1.trans hm.symm))
             rw [Ab0 (a:=⟨b2,off',none⟩) (setRow_other w b b2 cn hbb)];exact e2
          · cases EC
        · cases EC
      · cases hr
    · cases hr
 · cases hr
end
end Go.HH
