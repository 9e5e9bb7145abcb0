/-
  What the law needs, packed: Step7.
-/
import Derived.Test.YtmiilonaehgplaaM15
namespace Go.HH
open Go Go.RowKit
section
variable {C:Cfg} {D:List Deferred} {B:Nat} {T:Nat->Prop} {S:Store} {M:List Nat} {n:Nat} {st:St} {a:Act} {w:World}
theorem boxCells_set {bx:List PBox} {id j:Nat} {t:TypeId} {cs:List PV} (h:id < bx.length):boxCells (bx.set id (.cells t cs)) j=if j=id then some cs else boxCells bx j:=by
 unfold boxCells
 by_cases hj:j=id
 · subst hj;rw [if_pos rfl,List.getElem?_set_self h]
 · rw [if_neg hj,List.getElem?_set_ne (Ne.symm hj)]
theorem boxCells_lt {bx:List PBox} {id:Nat} {cs:List PV} (h:boxCells bx id=some cs):id < bx.length:=by
 rcases Nat.lt_or_ge id bx.length with h' | h'
 · exact h'
 · unfold boxCells at h;rw [List.getElem?_eq_none h'] at h;cases h
theorem boxCells_get {bx:List PBox} {id:Nat} {cs:List PV} (h:boxCells bx id=some cs):∃ t,bx[id]?=some (.cells t cs):=by
 unfold boxCells at h
 split at h
 · rename_i t c hc;injection h with h;subst h;exact ⟨t,hc⟩
 · cases h
theorem Sim.roLoc (h:Sim C D B T S M n st a w) (l:Loc) {e:TypeId} {xs:List PV} (he:locVal st l=.osl e xs) :
 Sim C D B T S M n (setLoc st l (.sl xs)) a w∧(∀ l' e' xs' v,LocAt (setLoc st l (.sl xs)) M a w l' (.osl e' xs') v->LocAt st M a w l' (.osl e' xs') v∧l'≠l):=by
 cases l with
 | tmp t=>
  refine ⟨h.roT t he,fun l' e' xs' v hl=>?_⟩
  cases l' with
  | tmp t'=>
   obtain ⟨h1,h2⟩:=hl
   simp only [setLoc] at h1
   rw [getT_setT] at h1
   by_cases ht:t'=t
   · rw [if_pos ht] at h1;cases h1
   · rw [if_neg ht] at h1;exact ⟨⟨h1,h2⟩,by simpa using ht⟩
  | box id off=>exact ⟨hl,by simp⟩
 | box id off=>
  simp only [locVal] at he
  split at he
  · rename_i cs hcs
    have hlt:=boxCells_lt hcs
    obtain ⟨bt,hget⟩:=boxCells_get hcs
    have hoff:off < cs.length:=by
     rcases Nat.lt_or_ge off cs.length with hh | hh
     · exact hh
     · rw [List.getD_eq_getElem?_getD,List.getElem?_eq_none hh] at he;cases he
    have hsl:setLoc st (.box id off) (.sl xs)={ st with bx:=st.bx.set id (.cells bt (cs.set off (.sl xs))) }:=by simp [setLoc,setBox,hget]
    have hco:cs[off]=.osl e xs:=by simpa [List.getD_eq_getElem?_getD,List.getElem?_eq_getElem hoff] using he
    have loc:∀ l' e' xs' v,LocAt (setLoc st (.box id off) (.sl xs)) M a w l' (.osl e' xs') v->LocAt st M a w l' (.osl e' xs') v∧l'≠.box id off:=by
     intro l' e' xs' v hl
     rw [hsl] at hl
     cases l' with
     | tmp t=>exact ⟨hl,by simp⟩
     | box id' off'=>
      obtain ⟨cs',b,h1,h2,h3,h4⟩:=hl
      simp only at h1
      rw [boxCells_set hlt] at h1
      by_cases hid:id'=id
      · subst hid
        rw [if_pos rfl] at h1
        injection h1 with h1
        subst h1
        by_cases ho:off'=off
        · subst ho;rw [List.getElem?_set_self hoff] at h2;injection h2 with h2;cases h2
        · rw [List.getElem?_set_ne (Ne.symm ho)] at h2
          exact ⟨⟨cs,b,hcs,h2,h3,h4⟩,by simpa using ho⟩
      · rw [if_neg hid] at h1
        exact ⟨⟨cs',b,h1,h2,h3,h4⟩,by simp [hid]⟩
    refine ⟨?_,loc⟩
    refine ⟨h.holds,h.glob,h.gw,h.size,h.dfr,by rw [hsl];exact h.env,by rw [hsl];simpa using h.mlen,fun id' bx hb=>?_,h.nodup,h.mS,h.mT,h.hB,fun l' e' xs' v hl=>h.own l' e' xs' v (loc _ _ _ _ hl).1,fun l1 l2 e1 e2 x1 x2 v1 v2 g hl1 hl2=>h.apart l1 l2 e1 e2 x1 x2 v1 v2 g (loc _ _ _ _ hl1).1 (loc _ _ _ _ hl2).1⟩
    rw [hsl] at hb
    simp only at hb
    by_cases hid:id'=id
    · subst hid
      rw [List.getElem?_set_self hlt] at hb
      injection hb with hb
      subst hb
      obtain ⟨b,h1,h2⟩:=h.boxes id' _ hget
      refine ⟨b,h1,?_⟩
      cases h2 with
      | cells _ cs b c hh l h1 hr=>
       refine .cells _ _ b c hh (by simpa using l) (fun i hi hi2=>h1 i hi (by simpa using hi2)) (fun i hi hi'=>?_)
       rw [List.getElem_set]
       split
       · rename_i hoi
         subst hoi
         have:=hr off hoff hi'
         rw [hco] at this
         cases this with | osl e xs v h=>exact h
       · exact hr i (by simpa using hi) hi'
    · rw [List.getElem?_set_ne (Ne.symm hid)] at hb
      exact h.boxes id' bx hb
  · cases he
theorem appendAt_loc (h:Sim C D B T S M n st a w) {al:List (Nat×Loc)} (hal:AlOK M a w al) {e:TypeId} {x:Operand} {l:Option Loc} {xs:List PV} (he:appendAt C st al e x=some (l,xs)) :
 (l=none∧xs=[]∧a.eval x=.slice none 0 0)∨∃ l',l=some l'∧locVal st l'=.osl e xs∧LocAt st M a w l' (.osl e xs) (a.eval x):=by
 unfold appendAt at he
 have hx:=h.raw x
 split at he
 · rename_i hr
   injection he with he
   injection he with h1 h2
   subst h1
   subst h2
   rw [hr] at hx
   exact .inl ⟨rfl,rfl,hx.nils_inv⟩
 · rename_i e' xs' hr
   split at he
   · rename_i hee
     subst hee
     split at he
     · rename_i t
       injection he with he
       injection he with h1 h2
       subst h1
       subst h2
       exact .inr ⟨.tmp t,rfl,hr,hr,rfl⟩
     · cases he
   · cases he
 · split at he
   · rename_i t
     split at he
     · rename_i d l' hf
       split at he
       · rename_i e' xs' hl
         split at he
         · rename_i hee
           subst hee
           injection he with he
           injection he with h1 h2
           subst h1
           subst h2
           have hmem:=List.mem_of_find?_eq_some hf
           have hd:=List.find?_some hf
           simp only [beq_iff_eq] at hd
           have hc:=hal _ hmem
           simp only [hd] at hc
           refine .inr ⟨l',rfl,hl,?_⟩
           cases l' with
           | tmp t'=>exact ⟨hl,hc.symm⟩
           | box id off=>
            obtain ⟨b,h1,h2⟩:=hc
            simp only [locVal] at hl
            split at hl
            · rename_i cs hcs
              have hoff:off < cs.length:=by
               rcases Nat.lt_or_ge off cs.length with hh | hh
               · exact hh
               · rw [List.getD_eq_getElem?_getD,List.getElem?_eq_none hh] at hl;cases hl
              refine ⟨cs,b,hcs,?_,h1,h2⟩
              rw [List.getElem?_eq_getElem hoff]
              simpa [List.getD_eq_getElem?_getD,List.getElem?_eq_getElem hoff] using hl
            · cases hl
         · cases he
       · cases he
     · cases he
   · cases he
 · cases he
theorem LocAt.rep (h:Sim C D B T S M n st a w) {l:Loc} {p:PV} {v:Value} (hl:LocAt st M a w l p v):Rep S M p v:=by
 cases l with
 | tmp t=>
  obtain ⟨h1,h2⟩:=hl
  rw [<- h1,<- h2]
  exact h.env t
 | box id off=>
  obtain ⟨cs,b,h1,h2,h3,h4⟩:=hl
  obtain ⟨b',c,e,hm,hh,hsz,ho,hr⟩:=BoxAt.get h h1
  rw [h3] at hm
  injection hm with hm
  subst hm
  have hoff:off < cs.length:=by
   rcases Nat.lt_or_ge off cs.length with hh | hh
   · exact hh
   · rw [List.getElem?_eq_none hh] at h2;cases h2
  rw [cell_of_heap hh,Array.getElem?_eq_getElem (by omega)] at h4
  rw [List.getElem?_eq_getElem hoff] at h2
  injection h2 with h2
  injection h4 with h4
  rw [<- h2,<- h4]
  exact hr off hoff (by omega)
theorem RepC.append {ps qs:List PV} {vs us:List Value} (h:RepC S M ps vs.toArray) (k:RepC S M qs us.toArray):RepC S M (ps++qs) (vs++us).toArray:=by
 obtain ⟨h1,h2,h3⟩:=h
 obtain ⟨k1,k2,k3⟩:=k
 simp only [List.size_toArray] at h1 k1
 have hL:RepL S M ps vs:=⟨h1.symm,fun i a b=>by have:=h3 i a (by simpa using b);rw [List.getElem_toArray] at this;exact this⟩
 have kL:RepL S M qs us:=⟨k1.symm,fun i a b=>by have:=k3 i a (by simpa using b);rw [List.getElem_toArray] at this;exact this⟩
 have hk:=hL.append kL
 refine ⟨by simp [h1,k1],fun i hi=>?_,fun i hi hi'=>by simpa using hk.2 i hi (by simpa using hi')⟩
 simp only [List.getElem_toArray]
 by_cases hlt:i < vs.length
 · rw [List.getElem_append_left hlt];have:=h2 i (by simpa using hlt);rw [List.getElem_toArray] at this;exact this
 · rw [List.getElem_append_right (by omega)];have:=k2 (i - vs.length) (by simp at hi ⊢;omega);rw [List.getElem_toArray] at this;exact this
theorem RepC.mono {S':Store} {ps:List PV} {c:Array Value} (hS:S.le S') (h:RepC S M ps c):RepC S' M ps c:=⟨h.1,h.2.1,fun i a b=>(h.2.2 i a b).mono hS (fun _ _ x=>x)⟩
theorem newElems_src {e:TypeId} {i:TypeInfo} {t:TypeId} {x:PV} {vx:Value} {ys:List PV} (hn:newElems C e i.size t x=some ys) (hx:Rep S M x vx)
 (hS:∀ b o v,S b o=some v->w.cell? ⟨b,o,none⟩=some v) (hy:∀ y ∈ ys,y.cells.length=i.size) :
 ∃ news,Src C.P i.size t vx ys.length news w∧RepC S M (flat ys) news.toArray:=by
 have hfl:=flat_length hy
 unfold newElems at hn
 split at hn
 · rename_i el x' ht
   obtain ⟨ad,cap,rfl,hcap,hc⟩:=hx.elems_inv hn
   rcases hc with rfl | ⟨b,o,rfl,hz,f,h1,h2,h3⟩
   · refine ⟨[],?_,by simp [flat,RepC]⟩
     cases ad with
     | none=>exact Src.ofNil w ht cap
     | some ad=>exact Src.ofSlice w ht ad 0 cap [] (by simp) (fun j u hu=>by simp at hu) (fun u hu=>by simp at hu)
   · refine ⟨(List.range (flat ys).length).map f,Src.ofSlice w ht _ _ cap _ (by simp [hfl]) (fun j u hu=>?_) (fun u hu=>?_),?_⟩
     · rw [List.getElem?_map] at hu
       obtain ⟨k,hk,rfl⟩:=Option.map_eq_some_iff.1 hu
       have hj:j < (flat ys).length:=by
        rcases Nat.lt_or_ge j (flat ys).length with hh | hh
        · exact hh
        · rw [List.getElem?_eq_none (by simp;exact hh)] at hk;cases hk
       rw [List.getElem?_range hj] at hk
       injection hk with hk
       subst hk
       rw [add_none]
       exact hS _ _ _ (h1 j hj)
     · obtain ⟨k,hk,rfl⟩:=List.mem_map.1 hu
       exact h2 k (by simpa using hk)
     · refine ⟨by simp,fun j hj=>?_,fun j hj hj'=>?_⟩
       · simp at hj ⊢;exact h2 j hj
       · simp;exact h3 j hj
 · rename_i s ht
   split at hn
   · rename_i he
     split at hn
     · rename_i hs1
       injection hn with hn
       subst hn
       obtain rfl:=hx.str_inv
       have:=Src.ofString (P:=C.P) w ht (⟨s.toArray⟩:ByteArray)
       rw [hs1]
       have hsz:(⟨s.toArray⟩:ByteArray).size=s.length:=by simp [ByteArray.size]
       refine ⟨byteCells ⟨s.toArray⟩,by rw [List.length_map,<- hsz];exact this,?_⟩
       have hflat:flat (s.map fun b=>PV.int .u8 b.toNat)=s.map fun b=>PV.int .u8 b.toNat:=by
        simp [flat,PV.cells,List.flatMap_map]
        rw [List.map_eq_flatMap]
       rw [hflat]
       refine ⟨by simp [byteCells],fun j hj=>?_,fun j hj hj'=>?_⟩
       · simp [byteCells] at hj ⊢;rfl
       · simp [byteCells];exact .int _ _
     · cases hn
   · cases hn
 · cases hn
theorem step_append (h:Sim C D B T S M n st a w) {o:Oper} (hd:∀ k,o.dst=some k->k < n) {al:List (Nat×Loc)} (hal:AlOK M a w al) {args:Array Operand} {argTypes:Array TypeId}
 (ho:o.op=.call { callee:=.builtin .append,args,argTypes }) {r:OpR} (hr:appendP C st al args argTypes o.dst=some r):StepTo C D B T S M n a w o r:=by
 unfold appendP at hr
 split at hr
 · rename_i s x t0 t1 hargs htys
   unfold appendOn at hr
   split at hr
   · rename_i e ht0
     split at hr
     · rename_i i hi
       split at hr
       · rename_i l xs ys hat hne
         split at hr
         · cases hr
         · rename_i hcond
           simp only [not_or,Nat.not_lt] at hcond
           obtain ⟨hs0,hz,hb1,hb2,hall,hzc⟩:=hcond
           have hy:∀ y ∈ ys,y.cells.length=i.size:=by
            intro y hy'
            have:(ys.all fun y=>y.cells.length == i.size)=true:=by simpa using hall
            rw [List.all_eq_true] at this
            simpa using this y hy'
           obtain ⟨zv,hzv⟩:∃ zv,i.zero=some zv:=by
            cases hz':i.zero with
            | none=>simp [hz'] at hz
            | some zv=>exact ⟨zv,rfl⟩
           have hzs:zv.cells.size=i.size:=by simpa [hzv] using hzc
           obtain ⟨news,hsrc,hnews⟩:=newElems_src (w:=w) hne (h.opd x) h.holds hy
           -- the slice that is appended to
           have own:∃ vals,w.ownsRow 0 e i.size (a.eval s) xs.length vals∧(∀ x ∈ xs,x.cells.length=i.size)∧RepC S M (flat xs) vals.toArray ∧
            (∀ g,(a.eval s).ownBlock=some g->(g ∉ M∧∀ j,xs.length * i.size<=j->S g j=none)∧(B<=g∨T g)):=by
            rcases appendAt_loc h hal hat with ⟨_,rfl,hv⟩ | ⟨l',_,_,hl⟩
            · rw [hv]
              exact ⟨[],World.ownsRow_nil w 0 e i.size,by simp,by simp [flat,RepC],fun g hg=>by simp [Value.ownBlock] at hg⟩
            · obtain ⟨⟨i',vals,hi',hrow,hx,hg⟩,hBT⟩:=h.own l' e xs _ hl
              rw [hi] at hi'
              injection hi' with hi'
              subst hi'
              refine ⟨vals,hrow,hx,?_,fun g hgg=>⟨hg g hgg,hBT g hgg⟩⟩
              have hfl:=flat_length hx
              have hrep:=hl.rep h
              generalize hv:a.eval s=v at *
              cases hrep with
              | osl e xs v hrep=>
               have hvl:=hrow.1
               by_cases hnil:xs=[]
               · subst hnil
                 have:vals=[]:=List.eq_nil_of_length_eq_zero (by simpa using hvl)
                 subst this
                 simp [flat,RepC]
               · obtain ⟨ad,cap,hvv,hcap,hc⟩:=hrep.elems_inv (xs:=xs) rfl
                 rcases hc with hc | ⟨b,o,rfl,hz,f,h1,h2,h3⟩
                 · exact absurd hc hnil
                 · rcases hrow.2 with ⟨e1,e2⟩ | ⟨g,cap',cur,e1,_⟩
                   · exact absurd (List.eq_nil_of_length_eq_zero e2) hnil
                   · have hcells:=hrow.cells (g:=g) (by rw [e1] <;> rfl)
                     rw [e1] at hvv
                     injection hvv with a1 a2 a3
                     injection a1 with a1
                     injection a1 with b1 b2 b3
                     subst b1
                     subst b2
                     have hf:∀ j (hj:j < (flat xs).length),vals[j]'(by omega)=f j:=by
                      intro j hj
                      have c1:=h.holds _ _ _ (h1 j hj)
                      have c2:=hcells j (vals[j]'(by omega)) (List.getElem?_eq_getElem (by omega))
                      rw [add_none] at c2
                      rw [c1] at c2
                      injection c2 with c2
                      exact c2.symm
                     refine ⟨by simp;omega,fun j hj=>?_,fun j hj hj'=>?_⟩
                     · simp at hj
                       simp only [List.getElem_toArray]
                       rw [hf j (by omega)];exact h2 j (by omega)
                     · simp only [List.getElem_toArray]
                       rw [hf j hj];exact h3 j hj
           obtain ⟨vals,hrow,hxz,hvals,hgs⟩:=own
           have hcap:xs.length+ys.length<=maxLen:=by unfold sizeCap at hb2;unfold maxLen;omega
           have hbyt:(xs.length+ys.length) * i.bytes<=140737488355328:=by unfold sizeCap at hb1;omega
           obtain ⟨v',w',hrun,hrow',os,tape,output,size,hwhere⟩:=run_append_src (P:=C.P) w t0 t1 o.type e i zv ht0 hi hzv hzs (a.eval s) xs.length vals hrow (a.eval x) ys.length news hsrc hcap hbyt
           -- the state once the old place has let go
           obtain ⟨st1,hst1,hsim1,hloc1⟩:∃ st1,st1=letGo st l xs∧Sim C D B T S M n st1 a w ∧
            (∀ l' e' xs' u k,LocAt st1 M a w l' (.osl e' xs') u->u.ownBlock=some k->(a.eval s).ownBlock≠some k):=by
            rcases appendAt_loc h hal hat with ⟨rfl,_,hv⟩ | ⟨l',rfl,hlv,hl⟩
            · exact ⟨st,rfl,h,fun l' e' xs' u k _ _=>by rw [hv];simp [Value.ownBlock]⟩
            · obtain ⟨h1,h2⟩:=h.roLoc l' hlv
              refine ⟨_,rfl,h1,fun l2 e' xs' u k hl2 hu hk=>?_⟩
              obtain ⟨h3,h4⟩:=h2 l2 e' xs' u hl2
              exact h4 (h.apart l2 l' _ _ _ _ _ _ k h3 hl hu hk)
           rw [<- hst1] at hr
           by_cases hrw:(C.rows e && (xs.isEmpty && !ys.isEmpty))=true
           · rw [if_pos hrw] at hr
             injection hr with hr
             subst hr
             simp only [Bool.and_eq_true,List.isEmpty_iff,Bool.not_eq_true',List.isEmpty_eq_false_iff] at hrw
             obtain ⟨_,hxs,hys⟩:=hrw
             subst hxs
             have hlen:=hrow'.1
             have hvl:=hrow.1
             simp only [List.length_nil,Nat.zero_mul,Nat.zero_add] at hlen hvl
             have hvals0:vals=[]:=List.eq_nil_of_length_eq_zero hvl
             subst hvals0
             have hyp:0 < ys.length:=List.length_pos_iff.2 hys
             rcases hrow'.2 with ⟨_,e2⟩ | ⟨g,cap,cur,hv',_,hgb,hnc,hcm,hcs,htake⟩
             · exfalso
               simp only [List.length_nil,Nat.zero_add] at e2
               omega
             subst hv'
             simp only [List.length_nil,Nat.zero_add,List.nil_append] at hnc htake hlen hrun
             have hnew:(a.eval s).ownBlock=some g∨g=w.heap.size:=by
              rcases hwhere with ⟨g',e1,e2,_⟩ | ⟨e1,_⟩
              · injection e2 with e2;subst e2;exact .inl e1
              · rcases e1 with e1 | e1
                · cases e1
                · injection e1 with e1;exact .inr e1
             have hblock:∀ k,k < w.heap.size->some g≠some k->w'.heap[k]?=w.heap[k]?:=by
              intro k hk hne
              rcases hwhere with ⟨g',e1,e2,e3⟩ | ⟨_,e3⟩
              · exact e3 k (fun e=>hne (by rw [e];exact e2))
              · exact e3 k hk
             have hgM:g ∉ M:=by
              rcases hnew with e1 | e1
              · exact (hgs g e1).1.1
              · intro hm;have:=h.mlt hm;omega
             have hgS:∀ o,S g o=none:=by
              intro o
              rcases hnew with e1 | e1
              · exact (hgs g e1).1.2 o (by simp)
              · exact store_fresh h.holds g (by omega) o
             have hgT:B<=g∨T g:=by
              rcases hnew with e1 | e1
              · exact (hgs g e1).2
              · have:=h.hB;exact .inl (by omega)
             have hgo:∀ l e xs v k,LocAt st1 M a w l (.osl e xs) v->v.ownBlock=some k->(some g:Option Nat)≠some k:=by
              intro l2 e2 xs2 u k hl2 hu hk
              injection hk with hk
              subst hk
              rcases hnew with e1 | e1
              · exact hloc1 l2 e2 xs2 u g hl2 hu e1
              · have:=(hsim1.own l2 e2 xs2 u hl2).1.lt hu;omega
             have hholds:∀ b o v,S b o=some v->w'.cell? ⟨b,o,none⟩=some v:=by
              intro b j u hu
              have hne:some g≠some b:=by
               intro e;injection e with e;subst e;rw [hgS] at hu;cases hu
              rw [World.cell?_of_block (a:=⟨b,j,none⟩) (hblock b (block_lt (h.holds b j u hu)) hne)]
              exact h.holds b j u hu
             obtain ⟨hsim2,hgr⟩:=hsim1.touch (some g) (fun k hk=>by injection hk with hk;subst hk;exact hgM) hgo (fun k hk=>by injection hk with hk;subst hk;exact hgT) os tape output size hblock (Store.le.refl S) (fun k _ _ _=>rfl) hholds
             have hpre:∀ (id b:Nat),M[id]?=some b->(M++[g])[id]?=some b:=fun id b hb=>prefix_get (List.prefix_append _ _) id b hb
             have hro:=ro_repC hnews
             have hnl:news.length=((flat ys).map PV.ro).length:=by simpa using hro.1
             have hcl:news.length<=cur.size:=by
              have:=congrArg List.length htake
              rw [List.length_take,show cur.toList.length=cur.size from Array.length_toList] at this
              omega
             have hcn:∀ i (h1:i < cur.size) (h2:i < news.length),cur[i]=news[i]:=by
              intro i h1 h2
              have:(cur.toList.take (news.length))[i]?=news[i]?:=by rw [hlen,htake]
              rw [List.getElem?_take_of_lt h2,List.getElem?_eq_getElem h2,List.getElem?_eq_getElem (by simpa using h1)] at this
              simpa using this
             have hbox:BoxAt S (M++[g]) w' (.cells e ((flat ys).map PV.ro)) g:=by
              refine .cells e _ g cur hgb (by omega) (fun i hi hi2=>?_) (fun i hi hi2=>?_)
              · rw [hcn i hi (by omega)]
                have:=hro.2.1 i (by simp;omega)
                simpa using this
              · rw [hcn i hi2 (by omega)]
                have:=hro.2.2 i hi (by simp;omega)
                exact (by simpa using this:Rep S M _ _).mono (Store.le.refl _) hpre
             have hs3:=hsim2.addBox g _ hbox hgM hgS hgT (fun l e xs v hl hv=>hgo l e xs v g (LocAt.back (fun b hb=>hblock b (h.mlt hb) (fun e=>by injection e with e;subst e;exact hgM hb)) hl) hv rfl) (fun t' cs' he=>by injection he with _ he;subst he;exact map_ro_no _)
             intro K Q hK
             have hv:(execOp a.eval o).run C.P w=.ok (.value (.slice (some ⟨g,0,none⟩) ys.length cap)) w':=by
              rw [execOp,ho]
              have e1:args=#[s,x]:=by have:=congrArg List.toArray hargs;simpa using this
              have e2:argTypes=#[t0,t1]:=by have:=congrArg List.toArray htys;simpa using this
              simp only [e1,e2,resolve,invoke,builtin,Sem.run_bind,Sem.run_pure,Result.andThen_ok,List.map_toArray,List.map_cons,List.map_nil,hrun]
             refine upon_of_value hv (hK S (M++[g]) _ w' (hs3.put o.dst hd (.rs _ _ g cap ?_ hnc) (fun e xs=>by simp)) hgr (List.prefix_append _ _) ?_)
             · rw [List.getElem?_append_right (by rw [hsim1.mlen];omega),hsim1.mlen];simp
             · exact hal.put h.size hd _ hpre (fun b hb=>hblock b (h.mlt hb) (fun e=>by injection e with e;subst e;exact hgM hb))
           rw [if_neg hrw] at hr
           injection hr with hr
           subst hr
           -- the store
           have hall2:(vals++news).length=(xs.length+ys.length) * i.size:=hrow'.1
           let S':Store:=fun b o=>if v'.ownBlock=some b then (vals++news)[o]? else S b o
           have hnew:∀ g,v'.ownBlock=some g->(a.eval s).ownBlock=some g∨g=w.heap.size:=by
            intro g hg
            rcases hwhere with ⟨g',e1,e2,_⟩ | ⟨e1,_⟩
            · rw [hg] at e2;injection e2 with e2;subst e2;exact .inl e1
            · rcases e1 with e1 | e1
              · rw [hg] at e1;cases e1
              · rw [hg] at e1;injection e1 with e1;exact .inr e1
           have hblock:∀ k,k < w.heap.size->v'.ownBlock≠some k->w'.heap[k]?=w.heap[k]?:=by
            intro k hk hne
            rcases hwhere with ⟨g',e1,e2,e3⟩ | ⟨_,e3⟩
            · exact e3 k (fun e=>hne (by rw [e2,e]))
            · exact e3 k hk
           have hle:S.le S':=by
            intro b j u hu
            show (if v'.ownBlock=some b then (vals++news)[j]? else S b j)=some u
            split
            · rename_i hb
              rcases hnew b hb with e1 | e1
              · have hj:j < xs.length * i.size:=by
                 rcases Nat.lt_or_ge j (xs.length * i.size) with hh | hh
                 · exact hh
                 · rw [(hgs b e1).1.2 j hh] at hu;cases hu
                have hvl:=hrow.1
                have c1:=h.holds _ _ _ hu
                have c2:=hrow.cells (g:=b) e1 j (vals[j]'(by omega)) (List.getElem?_eq_getElem (by omega))
                rw [add_none] at c2
                simp only [Nat.zero_add] at c2
                rw [c1] at c2
                rw [List.getElem?_append_left (by omega),List.getElem?_eq_getElem (by omega)]
                exact c2.symm
              · rw [store_fresh h.holds b (by omega) j] at hu;cases hu
            · exact hu
           have hholds:∀ b o v,S' b o=some v->w'.cell? ⟨b,o,none⟩=some v:=by
            intro b j u hu
            have hu':(if v'.ownBlock=some b then (vals++news)[j]? else S b j)=some u:=hu
            split at hu'
            · rename_i hb
              have:=hrow'.cells (g:=b) hb j u hu'
              rw [add_none] at this
              simpa using this
            · rename_i hb
              have hblt:=block_lt (h.holds b j u hu')
              rw [World.cell?_of_block (a:=⟨b,j,none⟩) (hblock b hblt hb)]
              exact h.holds b j u hu'
           have hgM:∀ k,v'.ownBlock=some k->k ∉ M:=by
            intro k hk hm
            rcases hnew k hk with e1 | e1
            · exact (hgs k e1).1.1 hm
            · have:=h.mlt hm;omega
           have hno:∀ l e xs v k,LocAt st1 M a w l (.osl e xs) v->v.ownBlock=some k->v'.ownBlock≠some k:=by
            intro l2 e2 xs2 u k hl2 hu hk
            rcases hnew k hk with e1 | e1
            · exact hloc1 l2 e2 xs2 u k hl2 hu e1
            · have:=(hsim1.own l2 e2 xs2 u hl2).1.lt hu;omega
           have hBT:∀ k,v'.ownBlock=some k->B<=k∨T k:=by
            intro k hk
            rcases hnew k hk with e1 | e1
            · exact (hgs k e1).2
            · have:=h.hB;exact .inl (by omega)
           obtain ⟨hsim2,hgr⟩:=hsim1.touch v'.ownBlock hgM hno hBT os tape output size hblock hle (fun k _ hne o=>by
            show (if v'.ownBlock=some k then (vals++news)[o]? else S k o)=S k o
            rw [if_neg hne]) hholds
           have hfl:flat (xs++ys)=flat xs++flat ys:=flat_append xs ys
           have hrc:RepC S' M (flat (xs++ys)) (vals++news).toArray:=by rw [hfl];exact (hvals.append hnews).mono hle
           have hxy:∀ x ∈ xs++ys,x.cells.length=i.size:=by
            intro x hx
            rcases List.mem_append.1 hx with hx | hx
            · exact hxz x hx
            · exact hy x hx
           have hfll:(flat (xs++ys)).length=(vals++news).length:=by rw [flat_length hxy,hall2,List.length_append]
           have hrep:Rep S' M (.osl e (xs++ys)) v':=by
            refine .osl _ _ _ ?_
            rcases hrow'.2 with ⟨rfl,e2⟩ | ⟨g,cap,cur,rfl,_,_,hcp,_⟩
            · have:xs++ys=[]:=List.eq_nil_of_length_eq_zero (by rw [List.length_append];exact e2)
              rw [this];exact .slE none 0
            · have hlen:xs.length+ys.length=(xs++ys).length:=by simp
              rw [hlen]
              by_cases hnil:xs++ys=[]
              · rw [hnil];exact .slE _ _
              · refine .sl _ g 0 cap (fun j=>(vals++news).getD j undef) (by rw [<- hlen];exact hcp) ⟨_,hxy⟩ (fun j hj=>?_) (fun j hj=>?_) (fun j hj=>?_)
                · show (if (Value.slice (some ⟨g,0,none⟩) (xs++ys).length cap).ownBlock=some g then (vals++news)[0+j]? else S g (0+j))=_
                  rw [if_pos (by rfl),Nat.zero_add,List.getD_eq_getElem?_getD,List.getElem?_eq_getElem (by omega)]
                  rfl
                · have:=hrc.2.1 j (by simp;simp at hfll;omega)
                  simp only [List.getElem_toArray] at this
                  rw [List.getD_eq_getElem?_getD,List.getElem?_eq_getElem (by omega)]
                  exact this
                · have:=hrc.2.2 j hj (by simp;simp at hfll;omega)
                  simp only [List.getElem_toArray] at this
                  rw [List.getD_eq_getElem?_getD,List.getElem?_eq_getElem (by omega)]
                  exact this
           have hown':OwnAt C.P S' M w' e (xs++ys) v':=⟨i,vals++news,hi,by rw [List.length_append];exact hrow',hxy,fun g hg=>⟨hgM g hg,fun j hj=>by
            show (if v'.ownBlock=some g then (vals++news)[j]? else S g j)=none
            rw [if_pos hg,List.getElem?_eq_none (by rw [hall2];rw [List.length_append] at hj;exact hj)]⟩⟩
           intro K Q hK
           have hv:(execOp a.eval o).run C.P w=.ok (.value v') w':=by
            rw [execOp,ho]
            have e1:args=#[s,x]:=by have:=congrArg List.toArray hargs;simpa using this
            have e2:argTypes=#[t0,t1]:=by have:=congrArg List.toArray htys;simpa using this
            simp only [e1,e2,resolve,invoke,builtin,Sem.run_bind,Sem.run_pure,Result.andThen_ok,List.map_toArray,List.map_cons,List.map_nil,hrun]
           refine upon_of_value hv (hK S' M _ w' (hsim2.putG o.dst hd hrep (fun e' xs' heq=>?_)) hgr (List.prefix_refl _) ?_)
           · injection heq with e1 e2
             subst e1
             subst e2
             refine ⟨hown',hBT,fun l2 e2 xs2 u g _ hl2 hu hk=>?_⟩
             exact hno l2 e2 xs2 u g (LocAt.back (fun b hb=>hblock b (h.mlt hb) (fun e=>hgM b e hb)) hl2) hu hk
           · exact hal.put h.size hd _ (fun _ _ x=>x) (fun b hb=>hblock b (h.mlt hb) (fun e=>hgM b e hb))
       · cases hr
     · cases hr
   · cases hr
 · cases hr
end
end Go.HH
