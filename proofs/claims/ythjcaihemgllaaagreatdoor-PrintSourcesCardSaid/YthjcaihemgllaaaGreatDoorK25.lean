/-
  What the law needs, packed: Draw3.
-/
import Derived.Test.YthjcaihemgllaaaGreatDoorK24
open Bool renaming and_eq_true->Aau,not_eq_true'->Ab3,or_eq_true->Ab7
open List renaming contains_iff_mem->Aav,all_eq_true->Aaw,mem_reverse->Aay,mem_zipIdx_iff_getElem?->Aaz,mem_append->Ab0,range->Ab6,append_of_mem->Abb,getElem_take->Abc,prefix_refl->Abe,append_nil->Abf
open Go.Region renaming binds->Aax,before->Ab2,schedule->Ab5
open Array renaming getElem?_eq_getElem->Ab1,getElem?_eq_some_iff->Ab9,mem_of_getElem?->Aba,all_toList->Abd
open Nat renaming le_refl->Ab4,lt_trans->Ab8
namespace Go.HH
open Go Go.RowKit
section
variable {C:Cfg}
def jc (C:Cfg) (call:Cn) (ops:Array Oper) (bx:List PBox) (rest:List Oper) (r:Ex×St) (l:List Oper) (e:List PV) (al:List (Nat×Loc)):Prop:=
 ∃ (v:Nat->PV) (els:Nat->List PV) (als N:Nat->List (Nat×Loc)),els 0=e/\als 0=al /\
  (∀ i (h:i < l.length),(∀ t,getT (els (i+1)) t=if l[i].dst=some t then v i else getT (els i) t)/\als (i+1)=N i++Aj (als i) l[i].dst/\N i ⊆ E' l[i].op (els i) l[i].dst /\
   ((GB ops (els i) l[i]=some false/\v i=und/\N i=[]) \/
    (GB ops (els i) l[i]=some true/\∀ e' al',(∀ t ∈ tmpsOf l[i],getT e' t=getT (els i) t)->Bq C call true al' l[i] ⟨e',bx⟩=some (.next ((St.mk e' bx).put l[i].dst (v i)) (N i++Aj al' l[i].dst))))) /\
  evOps C call true ops rest (als l.length) ⟨els l.length,bx⟩=some r
theorem cW {call:Cn} {ops:Array Oper} {bx:List PBox} {rest:List Oper} {r:Ex×St}:∀ (l:List Oper) (e:List PV) (al:List (Nat×Loc)),(∀ o ∈ l,HE C o=true)->evOps C call true ops (l++rest) al ⟨e,bx⟩=some r ->
 jc C call ops bx rest r l e al
 | [],e,al,_,h=>⟨fun _=>und,fun _=>e,fun _=>al,fun _=>[],rfl,rfl,fun i h=>by simp at h,h⟩
 | o :: l,e,al,hc,h=>by
  have CP:∀ (v:PV) t,getT ((St.mk e bx).put o.dst v).env t=if o.dst=some t then v else getT e t:=by
   intro v t;cases hd:o.dst with
   | none=>simp [St.put]
   | some d=>
    simp only [St.put,Option.some.injEq];rw [Dc];by_cases qF:t=d
    · rw [if_pos qF,if_pos qF.symm]
    · rw [if_neg qF,if_neg (Ne.symm qF)]
  have put_bx:∀ v,(St.mk e bx).put o.dst v=⟨((St.mk e bx).put o.dst v).env,bx⟩:=by
   intro v;cases o.dst <;> rfl
  have build:∀ (v0:PV) (n0:List (Nat×Loc)),n0 ⊆ E' o.op e o.dst->((GB ops e o=some false/\v0=und/\n0=[])\/(GB ops e o=some true/\∀ e' al',(∀ t ∈ tmpsOf o,getT e' t=getT e t)->Bq C call true al' o ⟨e',bx⟩=some (.next ((St.mk e' bx).put o.dst v0) (n0++Aj al' o.dst)))) ->
   evOps C call true ops (l++rest) (n0++Aj al o.dst) ((St.mk e bx).put o.dst v0)=some r->jc C call ops bx rest r (o :: l) e al:=by
   intro v0 n0 rV h0 h1;rw [put_bx] at h1;obtain ⟨v,els,als,N,g0,ga,g1,g2⟩:=cW l _ _ (fun o ho=>hc o (by simp [ho])) h1;refine ⟨fun i=>match i with | 0=>v0 | i+1=>v i,fun i=>match i with | 0=>e | i+1=>els i,fun i=>match i with | 0=>al | i+1=>als i,fun i=>match i with | 0=>n0 | i+1=>N i,rfl,rfl,fun i hi=>?_,g2⟩;cases i with
   | zero=>exact ⟨fun t=>by simp only [g0];exact CP v0 t,by simp only [ga];rfl,rV,h0⟩
   | succ i=>exact g1 i (by simpa using hi)
  simp only [List.cons_append] at h;unfold evOps at h;split at h
  · cases h
  · rename_i hw
    exact build und [] (fun _ h=>by simp at h) (.inl ⟨hw,rfl,rfl⟩) h
  · rename_i hw
    split at h
    · cases h
    · rename_i st1 al1 hs
      obtain ⟨v,hv,Gs⟩:=Pg (hc o (by simp)) hs;injection hv with e1 e2
      subst e1;subst e2;exact build v (E' o.op e o.dst) (fun _ h=>h) (.inr ⟨hw,Gs⟩) h
    · rename_i v st1 hs
      obtain ⟨v',hv,_⟩:=Pg (hc o (by simp)) hs;cases hv
theorem X' {ops:Array Oper} {o:Oper} {e e':List PV} (h:∀ t ∈ names ops o,getT e' t=getT e t):GB ops e' o=GB ops e o:=by
 unfold GB;split
 · rfl
 · rename_i j want hg
   split
   · rename_i d hd
     rw [h d ?_];unfold names;rw [hg];simp only;rw [hd];simp
   · rfl
theorem Re:U5 C:=by
 intro call Bo id ops n ex st st' B T S M D a w Q NR EB he h hq;refine wp_region_draw fun t=>?_
 -- the look
 unfold CM at EB;simp only [Aau] at EB;obtain ⟨Ti,UG⟩:=EB;rw [Aaw] at Ti UG;generalize hk:G3 (Ab2 ops) ops.size=k at UG;have hkn:k<=ops.size:=by rw [<- hk];exact Pf _ _
 have NS:∀ i o,ops[i]?=some o->∀ e ∈ o.after.toList,(Aax .text e=true->e.on < i) /\
  (Aax .gc e=true->((Ab6 ops.size).map (I7 ops)).getD e.on 0 < ((Ab6 ops.size).map (I7 ops)).getD i 0/\e.on < ops.size):=by
  intro i o ho e he
  have hm:(o,i) ∈ ops.toList.zipIdx:=by
   rw [Aaz];simpa using ho
  have:=Ti (o,i) hm;simp only at this;rw [<- Abd,Aaw] at this;have:=this e he;simp only [Aau,Ab7,Ab3,decide_eq_true_eq] at this;obtain ⟨g1,g2⟩:=this;refine ⟨fun hb=>?_,fun hb=>?_⟩
  · rcases g1 with g1 | g1
    · rw [hb] at g1;cases g1
    · exact g1
  · rcases g2 with g2 | g2
    · rw [hb] at g2;cases g2
    · exact g2
 have BC:∀ i o,ops[i]?=some o->∀ e ∈ o.after.toList,Aax .any e=true->e.on < i:=fun i o ho e he hb=>(NS i o ho e he).1 (Lh hb)
 -- the order
 have cG:∃ m acc,Ab5 (C.P.follows .mixedOrders) ops t=acc.reverse/\Dz m ops acc/\acc.length=ops.size:=by
  have lt_of:∀ i o,ops[i]?=some o->i < ops.size:=fun i o ho=>(Ab9.1 ho).1;unfold Ab5;split
  · obtain ⟨acc,h1,h2,h3⟩:=DA (m:=.any) (ops:=ops) (fun x=>x) (fun i o ho e he hb=>⟨BC i o ho e he hb,Ab8 (BC i o ho e he hb) (lt_of i o ho)⟩) t
    exact ⟨_,acc,h1,h2,h3⟩
  · split
    · obtain ⟨acc,h1,h2,h3⟩:=DA (m:=.text) (ops:=ops) (fun x=>x) (fun i o ho e he hb=>⟨(NS i o ho e he).1 hb,Ab8 ((NS i o ho e he).1 hb) (lt_of i o ho)⟩) (t / 2)
      exact ⟨_,acc,h1,h2,h3⟩
    · obtain ⟨acc,h1,h2,h3⟩:=DA (m:=.gc) (ops:=ops) (fun i=>((Ab6 ops.size).map (I7 ops)).getD i 0) (fun i o ho e he hb=>(NS i o ho e he).2 hb) (t / 2)
      exact ⟨_,acc,h1,h2,h3⟩
 obtain ⟨m,acc,hs,hg,hlen⟩:=cG;rw [hs];generalize hl:acc.reverse=l;have D4:Dz m ops l.reverse:=by rw [<- hl];simpa using hg
 have Im:l.length=ops.size:=by rw [<- hl];simpa using hlen
 -- the text
 have hsplit:ops.toList=ops.toList.take k++ops.toList.drop k:=(List.take_append_drop k _).symm
 have Du:∀ i o,i < k->ops[i]?=some o->HE C o=true/\(∀ j o',j < k->ops[j]?=some o'->i≠j->∀ d,o'.dst=some d->d ∈ names ops o->(j < i/\((Ab2 ops).getD i 0).testBit j=true)\/(i < j/\((Ab2 ops).getD j 0).testBit i=true)):=by
  intro i o hi ho
  have mem:∀ j o',j < k->ops[j]?=some o'->(o',j) ∈ (ops.toList.take k).zipIdx:=by
   intro j o' hj UF;rw [Aaz];simp only;rw [List.getElem?_take_of_lt hj];simpa using UF
  have h2:=UG (o,i) (mem i o hi ho);simp only [Aau] at h2;obtain ⟨⟨⟨g1,_⟩,g3⟩,_⟩:=h2;refine ⟨g1,fun j o' hj UF hij d hd hn=>?_⟩;rw [Aaw] at g3;have:=g3 (o',j) (mem j o' hj UF);simp only [Ab7,beq_iff_eq,hd,Ab3,Aau,decide_eq_true_eq] at this;rcases this with this | this
  · exact absurd this hij
  · rcases this with (this | this) | this
    · rw [Aav.2 hn] at this;cases this
    · exact .inl this
    · exact .inr this
 obtain ⟨e0,bx⟩:=st;rw [hsplit] at he
 obtain ⟨v,els,als,N,hel0,hal0,qG,eR⟩:=cW (ops.toList.take k) e0 [] (fun o ho=>by
  obtain ⟨i,hi,rfl⟩:=List.getElem_of_mem ho;simp only [List.length_take] at hi;have Dm:=Nat.lt_min.1 hi;refine (Du i _ Dm.1 ?_).1;rw [Abc];simp at Dm |-) he
 have PA:(ops.toList.take k).length=k:=by simp;omega
 rw [PA] at eR
 let dst:Nat->Option Tmp:=fun i=>(ops[i]?).bind (·.dst)
 have Bb:∀ i (hi:i < k),ops[i]?=some ((ops.toList.take k)[i]'(by rw [PA];exact hi)):=by
  intro i hi;rw [Abc];simp
 have hE:∀ i,i<=k->∀ t,getT (els i) t=V7 dst v (getT e0) (fun _=>true) i t:=by
  intro i
  induction i with
  | zero=>intro _ t;rw [hel0];rfl
  | succ i ih=>
   intro hi t;rw [(qG i (by rw [PA];omega)).1 t];simp only [V7];have:dst i=((ops.toList.take k)[i]'(by rw [PA];omega)).dst:=by simp only [dst];rw [Bb i (by omega)];rfl
   rw [this,ih (by omega) t];simp
 -- what is noted,and by whom
 have hNmem:∀ i,i < k->∀ q ∈ N i,∃ o,ops[i]?=some o/\o.dst=some q.1/\∃ t,q.2=.tmp t/\t ∈ tmpsOf o:=by
  intro i hi q hq;obtain ⟨_,_,hsub,_⟩:=qG i (by rw [PA];exact hi);obtain ⟨d',t,h1,rfl,_,h2,_⟩:=U2 (hsub hq);exact ⟨_,Bb i hi,h1,t,rfl,by unfold tmpsOf;rw [h2];simp [Op.operands]⟩
 have hdstk:∀ i (hi:i < k),dst i=((ops.toList.take k)[i]'(by rw [PA];exact hi)).dst:=fun i hi=>by simp only [dst];rw [Bb i hi];rfl
 let NB:Nat->Nat×Loc->Prop:=fun i q=>i < k/\q ∈ N i/\∀ j,i < j->j < k->∀ d,dst j=some d->q.1≠d/\q.2≠.tmp d
 have hals:∀ m,m<=k->∀ q ∈ als m,∃ i,i < m/\q ∈ N i/\∀ j,i < j->j < m->∀ d,dst j=some d->q.1≠d/\q.2≠.tmp d:=by
  intro m
  induction m with
  | zero=>intro _ q hq;rw [hal0] at hq;simp at hq
  | succ m ih=>
   intro hm q hq;obtain ⟨_,ha,_,_⟩:=qG m (by rw [PA];omega);rw [ha] at hq;rcases Ab0.1 hq with hq | hq
   · exact ⟨m,by omega,hq,fun j a b=>by omega⟩
   · obtain ⟨h1,h2⟩:=EU hq
     obtain ⟨i,g1,g2,g3⟩:=ih (by omega) q h1;refine ⟨i,by omega,g2,fun j a b d hd=>?_⟩;by_cases hj:j=m
     · subst hj
       rw [hdstk j (by omega)] at hd;exact h2 d hd
     · exact g3 j a (by omega) d hd
 -- what waits for what
 have htw:∀ i,k<=i->i < ops.size->∀ j,j < i->((Ab2 ops).getD i 0).testBit j=true:=by
  intro i hi NQ j hj;exact X9 (LL _ _ i (by rw [hk];exact hi) NQ) hj
 -- all in one
 have main:∀ (rest p:List Nat) (envl:List PV) (S1:AJ) (M1:List Nat) (a1:Act) (w1:World),l=p++rest->(∀ x ∈ p,x < k)->(∀ t,getT envl t=V7 dst v (getT e0) (fun j=>p.contains j) k t) ->
  Sim C D B T S1 M1 n ⟨envl,bx⟩ a1 w1->Grows B T S w S1 w1->M <+: M1->(∀ cur:List (Nat×Loc),GK M1 a1 w1 cur->(∀ i ∈ p,∀ q,NB i q->q ∈ cur)->wpOps C.P ops Q rest a1 w1):=by
  intro rest
  -- what comes when the first part is done
  have finish:∀ (rest p:List Nat) (envl:List PV) (S1:AJ) (M1:List Nat) (a1:Act) (w1:World),l=p++rest->(∀ x,x ∈ p↔x < k)->(∀ t,getT envl t=V7 dst v (getT e0) (fun j=>p.contains j) k t) ->
   Sim C D B T S1 M1 n ⟨envl,bx⟩ a1 w1->Grows B T S w S1 w1->M <+: M1->(∀ cur:List (Nat×Loc),GK M1 a1 w1 cur->(∀ i ∈ p,∀ q,NB i q->q ∈ cur)->wpOps C.P ops Q rest a1 w1):=by
   intro rest p envl S1 M1 a1 w1 QW hp cH Il Xw Tj cur cI NQ;have hrest:=aC BC htw D4 Im rest p k QW (Ab4 _) hp
   have rW:∀ t,getT (els k) t=getT envl t:=by
    intro t;rw [hE k (Ab4 _) t,cH t];exact (MJ k (Ab4 _) (fun j a b=>by omega) (fun j hj _=>Aav.2 ((hp j).2 hj))).symm
   have hsim':Sim C D B T S1 M1 n ⟨els k,bx⟩ a1 w1:=Il.congrEnv rW;have zo:(ops.toList.drop k).length=ops.size - k:=by simp
   rw [hrest,<- zo,wpOps_eq_wpList (ops.toList.drop k) k (fun j=>by rw [List.getElem?_drop];simp)]
   exact CW Bo true ops (ops.toList.drop k) (als k) ⟨els k,bx⟩ S1 M1 a1 w1 (fun o ho=>Ej NR o (List.mem_of_mem_drop ho)) hsim' (fun q hq=>by
    obtain ⟨i,g1,g2,g3⟩:=hals k (Ab4 _) q hq;exact cI q (NQ i ((hp i).2 g1) q ⟨g1,g2,g3⟩)) eR (hq.of_grows Xw Tj)
  induction rest with
  | nil=>
   intro p envl S1 M1 a1 w1 QW hp cH Il Xw Tj cur cI NQ;refine finish [] p envl S1 M1 a1 w1 QW (fun x=>⟨hp x,fun hx=>?_⟩) cH Il Xw Tj cur cI NQ;have:=Ko (l:=l.reverse) (n:=ops.size) D4.nodup (fun i hi=>D4.lt i hi) (by simpa using Im) x (by omega);rw [QW] at this;simpa using this
  | cons i q ih=>
   intro p envl S1 M1 a1 w1 QW hp cH Il Xw Tj cur cI hcin;have vb:l.reverse=q.reverse++(i :: p.reverse):=by rw [QW];simp
   have iF:Dz m ops (i :: p.reverse):=by rw [vb] at D4;exact D4.suffix _
   have zq:i ∉ p:=by have:=iF.2.1;rwa [Aay] at this
   by_cases eJ:i < k
   · -- one of the first part
     have NQ:i < ops.size:=iF.1;have hlen':i < (ops.toList.take k).length:=by rw [PA];exact eJ
     obtain ⟨hstep1,_,_,hstep2⟩:=qG i hlen';have mU:=Bb i eJ;generalize (ops.toList.take k)[i]'hlen'=o at hstep1 hstep2 mU;obtain ⟨_,hconf⟩:=Du i o eJ mU
     have hpi:∀ j,((Ab2 ops).getD i 0).testBit j=true->j ∈ p:=fun j hj=>by
      have:=Iu BC i p.reverse iF j hj
      rwa [Aay] at this
     -- nobody behind it that names the same has been
     have later:∀ t ∈ names ops o,∀ j,i<=j->j < k->p.contains j=true->dst j≠some t:=by
      intro t ht j hij hjk yL hd;rw [Aav] at yL;have Dx:i≠j:=by rintro rfl;exact zq yL
      cases ve:ops[j]? with
      | none=>simp [dst,ve] at hd
      | some o'=>
       have yM:o'.dst=some t:=by simpa [dst,ve] using hd
       rcases hconf j o' hjk ve Dx t yM ht with ⟨h1,_⟩ | ⟨_,h2⟩
       · omega
       · obtain ⟨x,y,iD⟩:=Abb (show j ∈ p.reverse by simpa using yL)
         have hgj:Dz m ops (j :: y):=by
          have:=iF.2.2.2;rw [iD] at this;exact this.suffix x
         have:=Iu BC j y hgj i h2;exact zq (by rw [<- Aay,iD];simp [this])
     -- what was noted stands
     have keep:∀ (n0:List (Nat×Loc)),n0=N i->∀ i' ∈ p++[i],∀ q,NB i' q->q ∈ n0++Aj cur o.dst:=by
      intro n0 rV i' Dm q nz;rw [Ab0];rcases Ab0.1 Dm with Dm | Dm
      · right
        have hqc:=hcin i' Dm q nz;obtain ⟨g1,g2,g3⟩:=nz;have Dx:i'≠i:=fun e=>zq (by rw [<- e];exact Dm)
        have clash:∀ d,o.dst=some d->q.1≠d/\q.2≠.tmp d:=by
         intro d hd;have hdi0:dst i=some d:=by simp [dst,mU,hd]
         rcases Nat.lt_trichotomy i' i with hlt' | rfl | hgt
         · exact g3 i hlt' eJ d hdi0
         · exact absurd rfl Dx
         · obtain ⟨o',UF,yM,t,ht',htm⟩:=hNmem i' g1 q g2
           obtain ⟨_,hconf'⟩:=Du i' o' g1 UF
           have bad:d ∈ names ops o'->False:=by
            intro I2;rcases hconf' i o eJ mU Dx d hd I2 with ⟨_,h2⟩ | ⟨h1,_⟩
            · obtain ⟨x,y,iD⟩:=Abb (show i' ∈ p.reverse by simpa using Dm)
              have hgj:Dz m ops (i' :: y):=by
               have:=iF.2.2.2;rw [iD] at this;exact this.suffix x
              have:=Iu BC i' y hgj i h2;exact zq (by rw [<- Aay,iD];simp [this])
            · omega
           refine ⟨fun e=>bad ?_,fun e=>bad ?_⟩
           · unfold names;rw [yM,e];simp
           · rw [ht'] at e
             injection e with e
             rw [<- e];unfold names;simp [htm]
        cases hd:o.dst with
        | none=>exact hqc
        | some d=>
         have:=clash d hd;simp only [Aj,List.mem_filter,Aau,bne_iff_ne];exact ⟨hqc,this⟩
      · left
        simp only [List.mem_singleton] at Dm;subst Dm;rw [rV];exact nz.2.1
     have agree:∀ t ∈ names ops o,getT envl t=getT (els i) t:=by
      intro t ht;rw [cH t,hE i (by omega) t];refine MJ k (by omega) (later t ht) (fun j qE hd=>?_);rw [Aav];cases ve:ops[j]? with
      | none=>simp [dst,ve] at hd
      | some o'=>
       have yM:o'.dst=some t:=by simpa [dst,ve] using hd
       rcases hconf j o' (by omega) ve (by omega) t yM ht with ⟨_,h2⟩ | ⟨h1,_⟩
       · exact hpi j h2
       · omega
     have hdi:dst i=o.dst:=by simp [dst,mU]
     have nA:∀ j,(p++[i]).contains j=(p.contains j || j == i):=by
      intro j;rw [Bool.eq_iff_iff];simp
     have Qx:∀ t,getT ((St.mk envl bx).put o.dst (v i)).env t=V7 dst v (getT e0) (fun j=>(p++[i]).contains j) k t:=by
      intro t;rw [cV (P:=fun j=>p.contains j) nA k eJ (fun j hij hjk yL hd=>later t (by unfold names;rw [hdi] at hd;simp [hd]) j (by omega) hjk yL),hdi,<- cH t];cases hd:o.dst with
      | none=>simp [St.put]
      | some d=>
       simp only [St.put,Option.some.injEq];rw [Dc];by_cases qF:t=d
       · rw [if_pos qF,if_pos qF.symm]
       · rw [if_neg qF,if_neg (Ne.symm qF)]
     have Kf:∀ u,(St.mk envl bx).put o.dst u=⟨((St.mk envl bx).put o.dst u).env,bx⟩:=fun u=>by cases o.dst <;> rfl
     have vf:∀ kk,o.dst=some kk->kk < n:=Ej NR o (by
      have:=Aba mU;simpa using this)
     unfold wpOps;rw [mU];simp only;have hwc:=X' (o:=o) agree;rcases hstep2 with ⟨hw,hv,hN0⟩ | ⟨hw,EC⟩
     · rw [<- hwc] at hw
       rw [Ja Il hw];simp only [Bool.false_eq_true,if_false];have hput:=Il.put o.dst vf (.und S1 M1) (fun e xs=>by simp [und]);rw [<- hv,Kf] at hput
       exact ih (p++[i]) _ S1 M1 _ w1 (by rw [QW];simp) (fun x hx=>by
        rcases Ab0.1 hx with hx | hx
        · exact hp x hx
        · simp at hx;omega) Qx hput Xw Tj (Aj cur o.dst) (cI.put Il.size vf _ (fun _ _ x=>x) (fun _ _=>rfl)) (fun i' Dm q nz=>keep [] hN0.symm i' Dm q nz)
     · rw [<- hwc] at hw
       rw [Ja Il hw];simp only [if_true]
       left
       refine I' Il vf (al:=cur) cI Bo true (EC envl cur (fun t ht=>agree t (by unfold names;simp [ht]))) _ _ ?_;intro S2 M2 a2 w2 Z2 qH ZF hal2;rw [Kf] at Z2
       exact ih (p++[i]) _ S2 M2 a2 w2 (by rw [QW];simp) (fun x hx=>by
        rcases Ab0.1 hx with hx | hx
        · exact hp x hx
        · simp at hx;omega) Qx Z2 (Xw.trans qH) (Tj.trans ZF) _ hal2 (keep _ rfl)
   · -- the rest
     refine finish (i :: q) p envl S1 M1 a1 w1 QW (fun x=>⟨hp x,fun hx=>?_⟩) cH Il Xw Tj cur cI hcin;have:=Iu BC i p.reverse iF x (htw i (by omega) iF.1 x (by omega))
     rwa [Aay] at this
 -- a draw turns nothing
 have ZO:Kept S w S { w with drawn:=w.drawn+1 }:=⟨rfl,rfl,rfl,Ab4 _,fun _ _=>rfl,AJ.le.refl _,fun _ _ _=>rfl,h.holds⟩;refine main l [] e0 S M a _ rfl (fun x hx=>by simp at hx) (fun t=>?_) (h.kept ZO) (ZO.grows h.hB) (Abe _) [] (fun p hp=>by simp at hp) (fun i hi=>by simp at hi)
 have:∀ k,V7 dst v (getT e0) (fun j=>([]:List Nat).contains j) k t=getT e0 t:=by
  intro k
  induction k with
  | zero=>rfl
  | succ k ih=>simp only [V7];rw [if_neg (by simp)];exact ih
 exact (this k).symm
theorem Dz.any {m:Region.Mode} {ops:Array Oper}:∀ {l:List Nat},Dz m ops l->Dz .any ops l
 | [],_=>trivial
 | _ :: _,⟨h1,h2,h3,h4⟩=>⟨h1,h2,fun o ho e he hb=>h3 o ho e he (Lh hb),h4.any⟩
theorem fp {ops:Array Oper}:∀ (pre acc:List Nat),Dz .any ops (pre++acc)->(pre++acc).reverse ∈ Df ops pre.length acc:=by
 intro pre
 induction hp:pre.length generalizing pre with
 | zero=>
  intro acc h;have:pre=[]:=List.length_eq_zero_iff.1 hp;subst this;simp [Df]
 | succ k ih=>
  intro acc h;have Dx:pre≠[]:=fun e=>by rw [e] at hp;cases hp
  obtain ⟨p,i,rfl⟩:∃ p i,pre=p++[i]:=⟨pre.dropLast,pre.getLast Dx,(List.dropLast_concat_getLast Dx).symm⟩;have hl:p.length=k:=by simpa using hp
  have e:p++[i]++acc=p++(i :: acc):=by simp
  rw [e] at h |-;have hs:=Dz.suffix p h;obtain ⟨h1,h2,h3,_⟩:=hs;unfold Df;rw [List.mem_flatMap];refine ⟨i,List.mem_range.2 h1,?_⟩
  have hr:Ki ops acc i=true:=by
   unfold Ki;rw [Ab1 h1];simp only [Aau,Ab3,Aaw,Ab7];refine ⟨by simpa using h2,fun e he=>?_⟩;cases hb:Aax .any e with
   | false=>left;rfl
   | true=>
    right
    rw [Aav];exact h3 _ (Ab1 h1) e he hb
  rw [if_pos hr];exact ih p hl (i :: acc) h
theorem Rf {P:Program} {ops:Array Oper} {Q:Exit->Act->World->Prop}:∀ (l:List Nat),(∀ i ∈ l,i < ops.size)->wpOps P ops Q l=wpList P ops Q (AR ops l)
 | [],_=>by funext a w;simp [wpOps,AR,wpList]
 | i :: l,h=>by
  have hi:=Ab1 (h i (by simp));have ih:=Rf (P:=P) (Q:=Q) l (fun j hj=>h j (by simp [hj]))
  funext a w
  unfold AR at ih |-;simp only [List.filterMap_cons,hi,wpOps,wpList,ih]
theorem HW:MH C:=by
 intro call Bo id ops n ex st st' B T S M D a w Q NR EB he h hq;refine wp_region_draw fun t=>?_;have Ti:=EB;unfold edgesOK at Ti;rw [Aaw] at Ti
 have NS:∀ i o,ops[i]?=some o->∀ e ∈ o.after.toList,(Aax .text e=true->e.on < i) /\
  (Aax .gc e=true->((Ab6 ops.size).map (I7 ops)).getD e.on 0 < ((Ab6 ops.size).map (I7 ops)).getD i 0/\e.on < ops.size):=by
  intro i o ho e he
  have hm:(o,i) ∈ ops.toList.zipIdx:=by
   rw [Aaz];simpa using ho
  have:=Ti (o,i) hm;simp only at this;rw [<- Abd,Aaw] at this;have:=this e he;simp only [Aau,Ab7,Ab3,decide_eq_true_eq] at this;obtain ⟨g1,g2⟩:=this;refine ⟨fun hb=>?_,fun hb=>?_⟩
  · rcases g1 with g1 | g1
    · rw [hb] at g1;cases g1
    · exact g1
  · rcases g2 with g2 | g2
    · rw [hb] at g2;cases g2
    · exact g2
 have BC:∀ i o,ops[i]?=some o->∀ e ∈ o.after.toList,Aax .any e=true->e.on < i:=fun i o ho e he hb=>(NS i o ho e he).1 (Lh hb)
 have cG:∃ m acc,Ab5 (C.P.follows .mixedOrders) ops t=acc.reverse/\Dz m ops acc/\acc.length=ops.size:=by
  have lt_of:∀ i o,ops[i]?=some o->i < ops.size:=fun i o ho=>(Ab9.1 ho).1;unfold Ab5;split
  · obtain ⟨acc,h1,h2,h3⟩:=DA (m:=.any) (ops:=ops) (fun x=>x) (fun i o ho e he hb=>⟨BC i o ho e he hb,Ab8 (BC i o ho e he hb) (lt_of i o ho)⟩) t
    exact ⟨_,acc,h1,h2,h3⟩
  · split
    · obtain ⟨acc,h1,h2,h3⟩:=DA (m:=.text) (ops:=ops) (fun x=>x) (fun i o ho e he hb=>⟨(NS i o ho e he).1 hb,Ab8 ((NS i o ho e he).1 hb) (lt_of i o ho)⟩) (t / 2)
      exact ⟨_,acc,h1,h2,h3⟩
    · obtain ⟨acc,h1,h2,h3⟩:=DA (m:=.gc) (ops:=ops) (fun i=>((Ab6 ops.size).map (I7 ops)).getD i 0) (fun i o ho e he hb=>(NS i o ho e he).2 hb) (t / 2)
      exact ⟨_,acc,h1,h2,h3⟩
 obtain ⟨m,acc,hs,hg,hlen⟩:=cG;rw [hs]
 have I2:acc.reverse ∈ BO ops:=by
  have:=fp acc [] (by rw [Abf];exact hg.any);rw [Abf,hlen] at this;exact this
 obtain ⟨l0,ls,eI,Zy,hls⟩:=Gi.1 he
 have Ip:Q0 st.bx.length (DL (evOps C call false ops (AR ops acc.reverse) [] st)) (ex,st'):=by
  rw [eI] at I2;rcases List.mem_cons.1 I2 with e | hm
  · rw [e];exact .inl Zy
  · exact hls _ hm
 rw [Rf _ (fun i hi=>hg.lt i (by simpa using hi))];have ZO:Kept S w S { w with drawn:=w.drawn+1 }:=⟨rfl,rfl,rfl,Ab4 _,fun _ _=>rfl,AJ.le.refl _,fun _ _ _=>rfl,h.holds⟩
 have XE:∃ iB st2,evOps C call false ops (AR ops acc.reverse) [] st=some (iB,st2)/\Q0 st.bx.length (DL (some (iB,st2))) (ex,st'):=by
  cases hx:evOps C call false ops (AR ops acc.reverse) [] st with
  | none=>
   rw [hx] at Ip;rcases Ip with Ip | ⟨s,Ip,_⟩ <;> cases Ip
  | some r=>rw [hx] at Ip;exact ⟨r.1,r.2,rfl,Ip⟩
 obtain ⟨iB,st2,Ip,UH⟩:=XE
 have hq2:Ends C D B T S M n w iB st2 Q:=by
  rcases UH with UH | ⟨s,UH,yK,vd⟩
  · cases iB with
    | pan v=>
     injection UH with UH
     injection UH with e1 e2
     subst e1;subst e2;exact fun S' M' a' w' x u e' _ hs hg hp hr hx=>hq S' M' a' w' x u e' (.inl rfl) hs hg hp hr hx
    | normal=>injection UH with UH;injection UH with e1 e2;subst e1;subst e2;exact hq
    | exit i=>injection UH with UH;injection UH with e1 e2;subst e1;subst e2;exact hq
    | ret=>injection UH with UH;injection UH with e1 e2;subst e1;subst e2;exact hq
  · have yK:ex=.normal:=yK
    subst yK;cases iB with
    | normal=>
     injection UH with UH
     injection UH with _ e2
     subst e2;intro S' M' a' w' hs hg hp;obtain ⟨z,rfl⟩:=hp
     have hz:z.length=2:=by
      have h1:=hs.mlen;have h2:=vd.len;have h3:=h.mlen;rw [List.length_append] at h1;omega
     match z,hz with
     | [b1,b2],_=>exact hq S' _ a' w' (Sim.swap h.mlen hs vd) hg ⟨[b2,b1],rfl⟩
    | pan v=>cases UH
    | exit i=>cases UH
    | ret=>cases UH
 clear hq;have hq:=hq2;refine CW Bo false ops (AR ops acc.reverse) [] st S M a _ (fun o ho=>?_) (h.kept ZO) (fun p hp=>by simp at hp) Ip (hq.of_grows (ZO.grows h.hB) (Abe _));unfold AR at ho;rw [List.mem_filterMap] at ho;obtain ⟨i,_,hi⟩:=ho;refine Ej NR o ?_;have:=Aba hi;simpa using this
end
theorem Ph {C:Cfg} (hh:Hb C) (hp:GX C) (O5:It C) (k:Nat):DY C (Fb C k):=Pe hh hp O5 (F4 hh hp O5 Re HW k false) (F4 hh hp O5 Re HW k true)
#print axioms Ph
end Go.HH
