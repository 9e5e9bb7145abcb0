/-
  What the law needs, packed: Draw3.
-/
import Derived.Test.YthjabmlbmnadjaaGreatJ23
open Bool renaming and_eq_true->yW,not_eq_true'->y5,or_eq_true->y9
open List renaming contains_iff_mem->yX,all_eq_true->yY,mem_reverse->y0,mem_zipIdx_iff_getElem?->y1,mem_append->y2,range->y8,append_of_mem->ze,getElem_take->zf,prefix_refl->zh,append_nil->zi
open Go.Region renaming binds->yZ,before->y4,schedule->y7
open Array renaming getElem?_eq_getElem->y3,getElem?_eq_some_iff->za,mem_of_getElem?->zd,all_toList->zg
open Nat renaming le_refl->y6,lt_trans->y'
namespace Go.HH
open Go Go.RowKit
section
variable {C:Cfg}
def jq (C:Cfg) (call:C4) (ops:Array Oper) (bx:List PBox) (rest:List Oper) (r:Ex×St) (l:List Oper) (e:List PV) (al:List (Nat×Loc)):Prop:=
 ∃ (v:Nat->PV) (els:Nat->List PV) (als N:Nat->List (Nat×Loc)),els 0=e/\als 0=al /\
  (∀ i (h:i < l.length),(∀ t,getT (els (i+1)) t=if l[i].dst=some t then v i else getT (els i) t)/\als (i+1)=N i++Ap (als i) l[i].dst/\N i ⊆ F0 l[i].op (els i) l[i].dst /\
   ((Is ops (els i) l[i]=some false/\v i=und/\N i=[]) \/
    (Is ops (els i) l[i]=some true/\∀ e' al',(∀ t ∈ tmpsOf l[i],getT e' t=getT (els i) t)->BR C call true al' l[i] ⟨e',bx⟩=some (.next ((St.mk e' bx).put l[i].dst (v i)) (N i++Ap al' l[i].dst))))) /\
  evOps C call true ops rest (als l.length) ⟨els l.length,bx⟩=some r
theorem dW {call:C4} {ops:Array Oper} {bx:List PBox} {rest:List Oper} {r:Ex×St}:∀ (l:List Oper) (e:List PV) (al:List (Nat×Loc)),(∀ o ∈ l,Iv C o=true)->evOps C call true ops (l++rest) al ⟨e,bx⟩=some r ->
 jq C call ops bx rest r l e al
 | [],e,al,_,h=>⟨fun _=>und,fun _=>e,fun _=>al,fun _=>[],rfl,rfl,fun i h=>by simp at h,h⟩
 | o :: l,e,al,hc,h=>by
  have Dv:∀ (v:PV) t,getT ((St.mk e bx).put o.dst v).env t=if o.dst=some t then v else getT e t:=by
   intro v t;cases hd:o.dst with
   | none=>simp [St.put]
   | some d=>
    simp only [St.put,Option.some.injEq];rw [Eb];by_cases o5:t=d
    · rw [if_pos o5,if_pos o5.symm]
    · rw [if_neg o5,if_neg (Ne.symm o5)]
  have put_bx:∀ v,(St.mk e bx).put o.dst v=⟨((St.mk e bx).put o.dst v).env,bx⟩:=by
   intro v;cases o.dst <;> rfl
  have build:∀ (v0:PV) (n0:List (Nat×Loc)),n0 ⊆ F0 o.op e o.dst->((Is ops e o=some false/\v0=und/\n0=[])\/(Is ops e o=some true/\∀ e' al',(∀ t ∈ tmpsOf o,getT e' t=getT e t)->BR C call true al' o ⟨e',bx⟩=some (.next ((St.mk e' bx).put o.dst v0) (n0++Ap al' o.dst)))) ->
   evOps C call true ops (l++rest) (n0++Ap al o.dst) ((St.mk e bx).put o.dst v0)=some r->jq C call ops bx rest r (o :: l) e al:=by
   intro v0 n0 pY h0 h1;rw [put_bx] at h1;obtain ⟨v,els,als,N,g0,ga,g1,g2⟩:=dW l _ _ (fun o ho=>hc o (by simp [ho])) h1;refine ⟨fun i=>match i with | 0=>v0 | i+1=>v i,fun i=>match i with | 0=>e | i+1=>els i,fun i=>match i with | 0=>al | i+1=>als i,fun i=>match i with | 0=>n0 | i+1=>N i,rfl,rfl,fun i hi=>?_,g2⟩;cases i with
   | zero=>exact ⟨fun t=>by simp only [g0];exact Dv v0 t,by simp only [ga];rfl,pY,h0⟩
   | succ i=>exact g1 i (by simpa using hi)
  simp only [List.cons_append] at h;unfold evOps at h;split at h
  · cases h
  · rename_i hw
    exact build und [] (fun _ h=>by simp at h) (.inl ⟨hw,rfl,rfl⟩) h
  · rename_i hw
    split at h
    · cases h
    · rename_i st1 al1 hs
      obtain ⟨v,hv,Io⟩:=Qm (hc o (by simp)) hs;injection hv with e1 e2
      subst e1;subst e2;exact build v (F0 o.op e o.dst) (fun _ h=>h) (.inr ⟨hw,Io⟩) h
    · rename_i v st1 hs
      obtain ⟨v',hv,_⟩:=Qm (hc o (by simp)) hs;cases hv
theorem Y5 {ops:Array Oper} {o:Oper} {e e':List PV} (h:∀ t ∈ names ops o,getT e' t=getT e t):Is ops e' o=Is ops e o:=by
 unfold Is;split
 · rfl
 · rename_i j want hg
   split
   · rename_i d hd
     rw [h d ?_];unfold names;rw [hg];simp only;rw [hd];simp
   · rfl
theorem Sa:V' C:=by
 intro call BD id ops n ex st st' B T S M D a w Q O9 Ek he h hq;refine wp_region_draw fun t=>?_
 -- the look
 unfold Cl at Ek;simp only [yW] at Ek;obtain ⟨Ud,VP⟩:=Ek;rw [yY] at Ud VP;generalize hk:HR (y4 ops) ops.size=k at VP;have hkn:k<=ops.size:=by rw [<- hk];exact Ql _ _
 have Pa:∀ i o,ops[i]?=some o->∀ e ∈ o.after.toList,(yZ .text e=true->e.on < i) /\
  (yZ .gc e=true->((y8 ops.size).map (JK ops)).getD e.on 0 < ((y8 ops.size).map (JK ops)).getD i 0/\e.on < ops.size):=by
  intro i o ho e he
  have hm:(o,i) ∈ ops.toList.zipIdx:=by
   rw [y1];simpa using ho
  have:=Ud (o,i) hm;simp only at this;rw [<- zg,yY] at this;have:=this e he;simp only [yW,y9,y5,decide_eq_true_eq] at this;obtain ⟨g1,g2⟩:=this;refine ⟨fun hb=>?_,fun hb=>?_⟩
  · rcases g1 with g1 | g1
    · rw [hb] at g1;cases g1
    · exact g1
  · rcases g2 with g2 | g2
    · rw [hb] at g2;cases g2
    · exact g2
 have Bq:∀ i o,ops[i]?=some o->∀ e ∈ o.after.toList,yZ .any e=true->e.on < i:=fun i o ho e he hb=>(Pa i o ho e he).1 (L7 hb)
 -- the order
 have dL:∃ m acc,y7 (C.P.follows .mixedOrders) ops t=acc.reverse/\Ec m ops acc/\acc.length=ops.size:=by
  have lt_of:∀ i o,ops[i]?=some o->i < ops.size:=fun i o ho=>(za.1 ho).1;unfold y7;split
  · obtain ⟨acc,h1,h2,h3⟩:=Ed (m:=.any) (ops:=ops) (fun x=>x) (fun i o ho e he hb=>⟨Bq i o ho e he hb,y' (Bq i o ho e he hb) (lt_of i o ho)⟩) t
    exact ⟨_,acc,h1,h2,h3⟩
  · split
    · obtain ⟨acc,h1,h2,h3⟩:=Ed (m:=.text) (ops:=ops) (fun x=>x) (fun i o ho e he hb=>⟨(Pa i o ho e he).1 hb,y' ((Pa i o ho e he).1 hb) (lt_of i o ho)⟩) (t / 2)
      exact ⟨_,acc,h1,h2,h3⟩
    · obtain ⟨acc,h1,h2,h3⟩:=Ed (m:=.gc) (ops:=ops) (fun i=>((y8 ops.size).map (JK ops)).getD i 0) (fun i o ho e he hb=>(Pa i o ho e he).2 hb) (t / 2)
      exact ⟨_,acc,h1,h2,h3⟩
 obtain ⟨m,acc,hs,hg,hlen⟩:=dL;rw [hs];generalize hl:acc.reverse=l;have Fs:Ec m ops l.reverse:=by rw [<- hl];simpa using hg
 have EL:l.length=ops.size:=by rw [<- hl];simpa using hlen
 -- the text
 have hsplit:ops.toList=ops.toList.take k++ops.toList.drop k:=(List.take_append_drop k _).symm
 have CY:∀ i o,i < k->ops[i]?=some o->Iv C o=true/\(∀ j o',j < k->ops[j]?=some o'->i≠j->∀ d,o'.dst=some d->d ∈ names ops o->(j < i/\((y4 ops).getD i 0).testBit j=true)\/(i < j/\((y4 ops).getD j 0).testBit i=true)):=by
  intro i o hi ho
  have mem:∀ j o',j < k->ops[j]?=some o'->(o',j) ∈ (ops.toList.take k).zipIdx:=by
   intro j o' hj dK;rw [y1];simp only;rw [List.getElem?_take_of_lt hj];simpa using dK
  have h2:=VP (o,i) (mem i o hi ho);simp only [yW] at h2;obtain ⟨⟨⟨g1,_⟩,g3⟩,_⟩:=h2;refine ⟨g1,fun j o' hj dK xQ d hd hn=>?_⟩;rw [yY] at g3;have:=g3 (o',j) (mem j o' hj dK);simp only [y9,beq_iff_eq,hd,y5,yW,decide_eq_true_eq] at this;rcases this with this | this
  · exact absurd this xQ
  · rcases this with (this | this) | this
    · rw [yX.2 hn] at this;cases this
    · exact .inl this
    · exact .inr this
 obtain ⟨e0,bx⟩:=st;rw [hsplit] at he
 obtain ⟨v,els,als,N,hel0,hal0,o6,fC⟩:=dW (ops.toList.take k) e0 [] (fun o ho=>by
  obtain ⟨i,hi,rfl⟩:=List.getElem_of_mem ho;simp only [List.length_take] at hi;have Ey:=Nat.lt_min.1 hi;refine (CY i _ Ey.1 ?_).1;rw [zf];simp at Ey |-) he
 have QF:(ops.toList.take k).length=k:=by simp;omega
 rw [QF] at fC
 let dst:Nat->Option Tmp:=fun i=>(ops[i]?).bind (·.dst)
 have A1:∀ i (hi:i < k),ops[i]?=some ((ops.toList.take k)[i]'(by rw [QF];exact hi)):=by
  intro i hi;rw [zf];simp
 have hE:∀ i,i<=k->∀ t,getT (els i) t=W2 dst v (getT e0) (fun _=>true) i t:=by
  intro i
  induction i with
  | zero=>intro _ t;rw [hel0];rfl
  | succ i ih=>
   intro hi t;rw [(o6 i (by rw [QF];omega)).1 t];simp only [W2];have:dst i=((ops.toList.take k)[i]'(by rw [QF];omega)).dst:=by simp only [dst];rw [A1 i (by omega)];rfl
   rw [this,ih (by omega) t];simp
 -- what is noted,and by whom
 have hNmem:∀ i,i < k->∀ q ∈ N i,∃ o,ops[i]?=some o/\o.dst=some q.1/\∃ t,q.2=.tmp t/\t ∈ tmpsOf o:=by
  intro i hi q hq;obtain ⟨_,_,hsub,_⟩:=o6 i (by rw [QF];exact hi);obtain ⟨d',t,h1,rfl,_,h2,_⟩:=V7 (hsub hq);exact ⟨_,A1 i hi,h1,t,rfl,by unfold tmpsOf;rw [h2];simp [Op.operands]⟩
 have hdstk:∀ i (hi:i < k),dst i=((ops.toList.take k)[i]'(by rw [QF];exact hi)).dst:=fun i hi=>by simp only [dst];rw [A1 i hi];rfl
 let NB:Nat->Nat×Loc->Prop:=fun i q=>i < k/\q ∈ N i/\∀ j,i < j->j < k->∀ d,dst j=some d->q.1≠d/\q.2≠.tmp d
 have hals:∀ m,m<=k->∀ q ∈ als m,∃ i,i < m/\q ∈ N i/\∀ j,i < j->j < m->∀ d,dst j=some d->q.1≠d/\q.2≠.tmp d:=by
  intro m
  induction m with
  | zero=>intro _ q hq;rw [hal0] at hq;simp at hq
  | succ m ih=>
   intro hm q hq;obtain ⟨_,ha,_,_⟩:=o6 m (by rw [QF];omega);rw [ha] at hq;rcases y2.1 hq with hq | hq
   · exact ⟨m,by omega,hq,fun j a b=>by omega⟩
   · obtain ⟨h1,h2⟩:=FJ hq
     obtain ⟨i,g1,g2,g3⟩:=ih (by omega) q h1;refine ⟨i,by omega,g2,fun j a b d hd=>?_⟩;by_cases hj:j=m
     · subst hj
       rw [hdstk j (by omega)] at hd;exact h2 d hd
     · exact g3 j a (by omega) d hd
 -- what waits for what
 have vo:∀ i,k<=i->i < ops.size->∀ j,j < i->((y4 ops).getD i 0).testBit j=true:=by
  intro i hi O8 j hj;exact Y4 (MU _ _ i (by rw [hk];exact hi) O8) hj
 -- all in one
 have main:∀ (rest p:List Nat) (envl:List PV) (S1:AY) (M1:List Nat) (a1:Act) (w1:World),l=p++rest->(∀ x ∈ p,x < k)->(∀ t,getT envl t=W2 dst v (getT e0) (fun j=>p.contains j) k t) ->
  Sim C D B T S1 M1 n ⟨envl,bx⟩ a1 w1->Grows B T S w S1 w1->M <+: M1->(∀ cur:List (Nat×Loc),Hu M1 a1 w1 cur->(∀ i ∈ p,∀ q,NB i q->q ∈ cur)->wpOps C.P ops Q rest a1 w1):=by
  intro rest
  -- what comes when the first part is done
  have finish:∀ (rest p:List Nat) (envl:List PV) (S1:AY) (M1:List Nat) (a1:Act) (w1:World),l=p++rest->(∀ x,x ∈ p↔x < k)->(∀ t,getT envl t=W2 dst v (getT e0) (fun j=>p.contains j) k t) ->
   Sim C D B T S1 M1 n ⟨envl,bx⟩ a1 w1->Grows B T S w S1 w1->M <+: M1->(∀ cur:List (Nat×Loc),Hu M1 a1 w1 cur->(∀ i ∈ p,∀ q,NB i q->q ∈ cur)->wpOps C.P ops Q rest a1 w1):=by
   intro rest p envl S1 M1 a1 w1 iA hp dM Ja Ym rW cur dN O8;have hrest:=bU Bq vo Fs EL rest p k iA (y6 _) hp
   have Ft:∀ t,getT (els k) t=getT envl t:=by
    intro t;rw [hE k (y6 _) t,dM t];exact (Og k (y6 _) (fun j a b=>by omega) (fun j hj _=>yX.2 ((hp j).2 hj))).symm
   have hsim':Sim C D B T S1 M1 n ⟨els k,bx⟩ a1 w1:=Ja.congrEnv Ft;have xR:(ops.toList.drop k).length=ops.size - k:=by simp
   rw [hrest,<- xR,wpOps_eq_wpList (ops.toList.drop k) k (fun j=>by rw [List.getElem?_drop];simp)]
   exact DB BD true ops (ops.toList.drop k) (als k) ⟨els k,bx⟩ S1 M1 a1 w1 (fun o ho=>Fa O9 o (List.mem_of_mem_drop ho)) hsim' (fun q hq=>by
    obtain ⟨i,g1,g2,g3⟩:=hals k (y6 _) q hq;exact dN q (O8 i ((hp i).2 g1) q ⟨g1,g2,g3⟩)) fC (hq.of_grows Ym rW)
  induction rest with
  | nil=>
   intro p envl S1 M1 a1 w1 iA hp dM Ja Ym rW cur dN O8;refine finish [] p envl S1 M1 a1 w1 iA (fun x=>⟨hp x,fun hx=>?_⟩) dM Ja Ym rW cur dN O8;have:=Lb (l:=l.reverse) (n:=ops.size) Fs.nodup (fun i hi=>Fs.lt i hi) (by simpa using EL) x (by omega);rw [iA] at this;simpa using this
  | cons i q ih=>
   intro p envl S1 M1 a1 w1 iA hp dM Ja Ym rW cur dN hcin;have rU:l.reverse=q.reverse++(i :: p.reverse):=by rw [iA];simp
   have iR:Ec m ops (i :: p.reverse):=by rw [rU] at Fs;exact Fs.suffix _
   have wh:i ∉ p:=by have:=iR.2.1;rwa [y0] at this
   by_cases fu:i < k
   · -- one of the first part
     have O8:i < ops.size:=iR.1;have hlen':i < (ops.toList.take k).length:=by rw [QF];exact fu
     obtain ⟨hstep1,_,_,hstep2⟩:=o6 i hlen';have l3:=A1 i fu;generalize (ops.toList.take k)[i]'hlen'=o at hstep1 hstep2 l3;obtain ⟨_,hconf⟩:=CY i o fu l3
     have hpi:∀ j,((y4 ops).getD i 0).testBit j=true->j ∈ p:=fun j hj=>by
      have:=Jh Bq i p.reverse iR j hj
      rwa [y0] at this
     -- nobody behind it that names the same has been
     have later:∀ t ∈ names ops o,∀ j,i<=j->j < k->p.contains j=true->dst j≠some t:=by
      intro t ht j xQ xS vp hd;rw [yX] at vp;have DZ:i≠j:=by rintro rfl;exact wh vp
      cases rX:ops[j]? with
      | none=>simp [dst,rX] at hd
      | some o'=>
       have vq:o'.dst=some t:=by simpa [dst,rX] using hd
       rcases hconf j o' xS rX DZ t vq ht with ⟨h1,_⟩ | ⟨_,h2⟩
       · omega
       · obtain ⟨x,y,iP⟩:=ze (show j ∈ p.reverse by simpa using vp)
         have xT:Ec m ops (j :: y):=by
          have:=iR.2.2.2;rw [iP] at this;exact this.suffix x
         have:=Jh Bq j y xT i h2;exact wh (by rw [<- y0,iP];simp [this])
     -- what was noted stands
     have keep:∀ (n0:List (Nat×Loc)),n0=N i->∀ i' ∈ p++[i],∀ q,NB i' q->q ∈ n0++Ap cur o.dst:=by
      intro n0 pY i' Ey q oU;rw [y2];rcases y2.1 Ey with Ey | Ey
      · right
        have hqc:=hcin i' Ey q oU;obtain ⟨g1,g2,g3⟩:=oU;have DZ:i'≠i:=fun e=>wh (by rw [<- e];exact Ey)
        have clash:∀ d,o.dst=some d->q.1≠d/\q.2≠.tmp d:=by
         intro d hd;have hdi0:dst i=some d:=by simp [dst,l3,hd]
         rcases Nat.lt_trichotomy i' i with hlt' | rfl | hgt
         · exact g3 i hlt' fu d hdi0
         · exact absurd rfl DZ
         · obtain ⟨o',dK,vq,t,ht',htm⟩:=hNmem i' g1 q g2
           obtain ⟨_,hconf'⟩:=CY i' o' g1 dK
           have bad:d ∈ names ops o'->False:=by
            intro N2;rcases hconf' i o fu l3 DZ d hd N2 with ⟨_,h2⟩ | ⟨h1,_⟩
            · obtain ⟨x,y,iP⟩:=ze (show i' ∈ p.reverse by simpa using Ey)
              have xT:Ec m ops (i' :: y):=by
               have:=iR.2.2.2;rw [iP] at this;exact this.suffix x
              have:=Jh Bq i' y xT i h2;exact wh (by rw [<- y0,iP];simp [this])
            · omega
           refine ⟨fun e=>bad ?_,fun e=>bad ?_⟩
           · unfold names;rw [vq,e];simp
           · rw [ht'] at e
             injection e with e
             rw [<- e];unfold names;simp [htm]
        cases hd:o.dst with
        | none=>exact hqc
        | some d=>
         have:=clash d hd;simp only [Ap,List.mem_filter,yW,bne_iff_ne];exact ⟨hqc,this⟩
      · left
        simp only [List.mem_singleton] at Ey;subst Ey;rw [pY];exact oU.2.1
     have agree:∀ t ∈ names ops o,getT envl t=getT (els i) t:=by
      intro t ht;rw [dM t,hE i (by omega) t];refine Og k (by omega) (later t ht) (fun j oZ hd=>?_);rw [yX];cases rX:ops[j]? with
      | none=>simp [dst,rX] at hd
      | some o'=>
       have vq:o'.dst=some t:=by simpa [dst,rX] using hd
       rcases hconf j o' (by omega) rX (by omega) t vq ht with ⟨_,h2⟩ | ⟨h1,_⟩
       · exact hpi j h2
       · omega
     have hdi:dst i=o.dst:=by simp [dst,l3]
     have iS:∀ j,(p++[i]).contains j=(p.contains j || j == i):=by
      intro j;rw [Bool.eq_iff_iff];simp
     have Rt:∀ t,getT ((St.mk envl bx).put o.dst (v i)).env t=W2 dst v (getT e0) (fun j=>(p++[i]).contains j) k t:=by
      intro t;rw [dV (P:=fun j=>p.contains j) iS k fu (fun j xQ xS vp hd=>later t (by unfold names;rw [hdi] at hd;simp [hd]) j (by omega) xS vp),hdi,<- dM t];cases hd:o.dst with
      | none=>simp [St.put]
      | some d=>
       simp only [St.put,Option.some.injEq];rw [Eb];by_cases o5:t=d
       · rw [if_pos o5,if_pos o5.symm]
       · rw [if_neg o5,if_neg (Ne.symm o5)]
     have Yl:∀ u,(St.mk envl bx).put o.dst u=⟨((St.mk envl bx).put o.dst u).env,bx⟩:=fun u=>by cases o.dst <;> rfl
     have rY:∀ kk,o.dst=some kk->kk < n:=Fa O9 o (by
      have:=zd l3;simpa using this)
     unfold wpOps;rw [l3];simp only;have hwc:=Y5 (o:=o) agree;rcases hstep2 with ⟨hw,hv,hN0⟩ | ⟨hw,Fq⟩
     · rw [<- hwc] at hw
       rw [JO Ja hw];simp only [Bool.false_eq_true,if_false];have hput:=Ja.put o.dst rY (.und S1 M1) (fun e xs=>by simp [und]);rw [<- hv,Yl] at hput
       exact ih (p++[i]) _ S1 M1 _ w1 (by rw [iA];simp) (fun x hx=>by
        rcases y2.1 hx with hx | hx
        · exact hp x hx
        · simp at hx;omega) Rt hput Ym rW (Ap cur o.dst) (dN.put Ja.size rY _ (fun _ _ x=>x) (fun _ _=>rfl)) (fun i' Ey q oU=>keep [] hN0.symm i' Ey q oU)
     · rw [<- hwc] at hw
       rw [JO Ja hw];simp only [if_true]
       left
       refine JN Ja rY (al:=cur) dN BD true (Fq envl cur (fun t ht=>agree t (by unfold names;simp [ht]))) _ _ ?_;intro S2 M2 a2 w2 Ys l9 bu hal2;rw [Yl] at Ys
       exact ih (p++[i]) _ S2 M2 a2 w2 (by rw [iA];simp) (fun x hx=>by
        rcases y2.1 hx with hx | hx
        · exact hp x hx
        · simp at hx;omega) Rt Ys (Ym.trans l9) (rW.trans bu) _ hal2 (keep _ rfl)
   · -- the rest
     refine finish (i :: q) p envl S1 M1 a1 w1 iA (fun x=>⟨hp x,fun hx=>?_⟩) dM Ja Ym rW cur dN hcin;have:=Jh Bq i p.reverse iR x (vo i (by omega) iR.1 x (by omega))
     rwa [y0] at this
 -- a draw turns nothing
 have bf:Kept S w S { w with drawn:=w.drawn+1 }:=⟨rfl,rfl,rfl,y6 _,fun _ _=>rfl,AY.le.refl _,fun _ _ _=>rfl,h.holds⟩;refine main l [] e0 S M a _ rfl (fun x hx=>by simp at hx) (fun t=>?_) (h.kept bf) (bf.grows h.hB) (zh _) [] (fun p hp=>by simp at hp) (fun i hi=>by simp at hi)
 have:∀ k,W2 dst v (getT e0) (fun j=>([]:List Nat).contains j) k t=getT e0 t:=by
  intro k
  induction k with
  | zero=>rfl
  | succ k ih=>simp only [W2];rw [if_neg (by simp)];exact ih
 exact (this k).symm
theorem Ec.any {m:Region.Mode} {ops:Array Oper}:∀ {l:List Nat},Ec m ops l->Ec .any ops l
 | [],_=>trivial
 | _ :: _,⟨h1,h2,h3,h4⟩=>⟨h1,h2,fun o ho e he hb=>h3 o ho e he (L7 hb),h4.any⟩
theorem fT {ops:Array Oper}:∀ (pre acc:List Nat),Ec .any ops (pre++acc)->(pre++acc).reverse ∈ EN ops pre.length acc:=by
 intro pre
 induction hp:pre.length generalizing pre with
 | zero=>
  intro acc h;have:pre=[]:=List.length_eq_zero_iff.1 hp;subst this;simp [EN]
 | succ k ih=>
  intro acc h;have DZ:pre≠[]:=fun e=>by rw [e] at hp;cases hp
  obtain ⟨p,i,rfl⟩:∃ p i,pre=p++[i]:=⟨pre.dropLast,pre.getLast DZ,(List.dropLast_concat_getLast DZ).symm⟩;have hl:p.length=k:=by simpa using hp
  have e:p++[i]++acc=p++(i :: acc):=by simp
  rw [e] at h |-;have hs:=Ec.suffix p h;obtain ⟨h1,h2,h3,_⟩:=hs;unfold EN;rw [List.mem_flatMap];refine ⟨i,List.mem_range.2 h1,?_⟩
  have hr:Nd ops acc i=true:=by
   unfold Nd;rw [y3 h1];simp only [yW,y5,yY,y9];refine ⟨by simpa using h2,fun e he=>?_⟩;cases hb:yZ .any e with
   | false=>left;rfl
   | true=>
    right
    rw [yX];exact h3 _ (y3 h1) e he hb
  rw [if_pos hr];exact ih p hl (i :: acc) h
theorem Sc {P:Program} {ops:Array Oper} {Q:Exit->Act->World->Prop}:∀ (l:List Nat),(∀ i ∈ l,i < ops.size)->wpOps P ops Q l=wpList P ops Q (A' ops l)
 | [],_=>by funext a w;simp [wpOps,A',wpList]
 | i :: l,h=>by
  have hi:=y3 (h i (by simp));have ih:=Sc (P:=P) (Q:=Q) l (fun j hj=>h j (by simp [hj]))
  funext a w
  unfold A' at ih |-;simp only [List.filterMap_cons,hi,wpOps,wpList,ih]
theorem IU:Oe C:=by
 intro call BD id ops n ex st st' B T S M D a w Q O9 Ek he h hq;refine wp_region_draw fun t=>?_;have Ud:=Ek;unfold edgesOK at Ud;rw [yY] at Ud
 have Pa:∀ i o,ops[i]?=some o->∀ e ∈ o.after.toList,(yZ .text e=true->e.on < i) /\
  (yZ .gc e=true->((y8 ops.size).map (JK ops)).getD e.on 0 < ((y8 ops.size).map (JK ops)).getD i 0/\e.on < ops.size):=by
  intro i o ho e he
  have hm:(o,i) ∈ ops.toList.zipIdx:=by
   rw [y1];simpa using ho
  have:=Ud (o,i) hm;simp only at this;rw [<- zg,yY] at this;have:=this e he;simp only [yW,y9,y5,decide_eq_true_eq] at this;obtain ⟨g1,g2⟩:=this;refine ⟨fun hb=>?_,fun hb=>?_⟩
  · rcases g1 with g1 | g1
    · rw [hb] at g1;cases g1
    · exact g1
  · rcases g2 with g2 | g2
    · rw [hb] at g2;cases g2
    · exact g2
 have Bq:∀ i o,ops[i]?=some o->∀ e ∈ o.after.toList,yZ .any e=true->e.on < i:=fun i o ho e he hb=>(Pa i o ho e he).1 (L7 hb)
 have dL:∃ m acc,y7 (C.P.follows .mixedOrders) ops t=acc.reverse/\Ec m ops acc/\acc.length=ops.size:=by
  have lt_of:∀ i o,ops[i]?=some o->i < ops.size:=fun i o ho=>(za.1 ho).1;unfold y7;split
  · obtain ⟨acc,h1,h2,h3⟩:=Ed (m:=.any) (ops:=ops) (fun x=>x) (fun i o ho e he hb=>⟨Bq i o ho e he hb,y' (Bq i o ho e he hb) (lt_of i o ho)⟩) t
    exact ⟨_,acc,h1,h2,h3⟩
  · split
    · obtain ⟨acc,h1,h2,h3⟩:=Ed (m:=.text) (ops:=ops) (fun x=>x) (fun i o ho e he hb=>⟨(Pa i o ho e he).1 hb,y' ((Pa i o ho e he).1 hb) (lt_of i o ho)⟩) (t / 2)
      exact ⟨_,acc,h1,h2,h3⟩
    · obtain ⟨acc,h1,h2,h3⟩:=Ed (m:=.gc) (ops:=ops) (fun i=>((y8 ops.size).map (JK ops)).getD i 0) (fun i o ho e he hb=>(Pa i o ho e he).2 hb) (t / 2)
      exact ⟨_,acc,h1,h2,h3⟩
 obtain ⟨m,acc,hs,hg,hlen⟩:=dL;rw [hs]
 have N2:acc.reverse ∈ Cc ops:=by
  have:=fT acc [] (by rw [zi];exact hg.any);rw [zi,hlen] at this;exact this
 have N4:=(AN.1 he).2 _ N2;rw [Sc _ (fun i hi=>hg.lt i (by simpa using hi))];have bf:Kept S w S { w with drawn:=w.drawn+1 }:=⟨rfl,rfl,rfl,y6 _,fun _ _=>rfl,AY.le.refl _,fun _ _ _=>rfl,h.holds⟩
 have LZ:∃ ex2 st2,evOps C call false ops (A' ops acc.reverse) [] st=some (ex2,st2)/\Gs (some (ex2,st2))=some (ex,st'):=by
  cases hx:evOps C call false ops (A' ops acc.reverse) [] st with
  | none=>rw [hx] at N4;cases N4
  | some r=>rw [hx] at N4;exact ⟨r.1,r.2,rfl,N4⟩
 obtain ⟨ex2,st2,N4,iT⟩:=LZ
 have xJ:Ends C D B T S M n w ex2 st2 Q:=by
  cases ex2 with
  | pan v=>
   injection iT with iT
   injection iT with e1 e2
   subst e1;subst e2;exact fun S' M' a' w' x u e' _ hs hg hp hr hx=>hq S' M' a' w' x u e' (.inl rfl) hs hg hp hr hx
  | normal=>injection iT with iT;injection iT with e1 e2;subst e1;subst e2;exact hq
  | exit i=>injection iT with iT;injection iT with e1 e2;subst e1;subst e2;exact hq
  | ret=>injection iT with iT;injection iT with e1 e2;subst e1;subst e2;exact hq
 clear hq;have hq:=xJ;refine DB BD false ops (A' ops acc.reverse) [] st S M a _ (fun o ho=>?_) (h.kept bf) (fun p hp=>by simp at hp) N4 (hq.of_grows (bf.grows h.hB) (zh _));unfold A' at ho;rw [List.mem_filterMap] at ho;obtain ⟨i,_,hi⟩:=ho;refine Fa O9 o ?_;have:=zd hi;simpa using this
end
theorem Qn {C:Cfg} (hh:H0 C) (hp:HE C) (Qa:Jg C) (k:Nat):EH C (Gt C k):=Qk hh hp Qa (GC hh hp Qa Sa IU k false) (GC hh hp Qa Sa IU k true)
#print axioms Qn
end Go.HH
