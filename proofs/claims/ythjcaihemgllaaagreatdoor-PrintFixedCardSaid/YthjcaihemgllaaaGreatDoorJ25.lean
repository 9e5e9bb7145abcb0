/-
  What the law needs, packed: Draw3.
-/
import Derived.Test.YthjcaihemgllaaaGreatDoorJ24
open Bool renaming and_eq_true->Aa0,not_eq_true'->Aa9,or_eq_true->Aad
open List renaming contains_iff_mem->Aa1,all_eq_true->Aa2,mem_reverse->Aa4,mem_zipIdx_iff_getElem?->Aa5,mem_append->Aa6,range->Aac,append_of_mem->Aah,getElem_take->Aai,prefix_refl->Aak,append_nil->Aal
open Go.Region renaming binds->Aa3,before->Aa8,schedule->Aab
open Array renaming getElem?_eq_getElem->Aa7,getElem?_eq_some_iff->Aaf,mem_of_getElem?->Aag,all_toList->Aaj
open Nat renaming le_refl->Aaa,lt_trans->Aae
namespace Go.HH
open Go Go.RowKit
section
variable {C:Cfg}
def iD (C:Cfg) (call:Cl) (ops:Array Oper) (bx:List PBox) (rest:List Oper) (r:Ex×St) (l:List Oper) (e:List PV) (al:List (Nat×Loc)):Prop:=
 ∃ (v:Nat->PV) (els:Nat->List PV) (als N:Nat->List (Nat×Loc)),els 0=e/\als 0=al /\
  (∀ i (h:i < l.length),(∀ t,getT (els (i+1)) t=if l[i].dst=some t then v i else getT (els i) t)/\als (i+1)=N i++Ak (als i) l[i].dst/\N i ⊆ Fc l[i].op (els i) l[i].dst /\
   ((GA ops (els i) l[i]=some false/\v i=und/\N i=[]) \/
    (GA ops (els i) l[i]=some true/\∀ e' al',(∀ t ∈ tmpsOf l[i],getT e' t=getT (els i) t)->Bp C call true al' l[i] ⟨e',bx⟩=some (.next ((St.mk e' bx).put l[i].dst (v i)) (N i++Ak al' l[i].dst))))) /\
  evOps C call true ops rest (als l.length) ⟨els l.length,bx⟩=some r
theorem cq {call:Cl} {ops:Array Oper} {bx:List PBox} {rest:List Oper} {r:Ex×St}:∀ (l:List Oper) (e:List PV) (al:List (Nat×Loc)),(∀ o ∈ l,HA C o=true)->evOps C call true ops (l++rest) al ⟨e,bx⟩=some r ->
 iD C call ops bx rest r l e al
 | [],e,al,_,h=>⟨fun _=>und,fun _=>e,fun _=>al,fun _=>[],rfl,rfl,fun i h=>by simp at h,h⟩
 | o :: l,e,al,hc,h=>by
  have CP:∀ (v:PV) t,getT ((St.mk e bx).put o.dst v).env t=if o.dst=some t then v else getT e t:=by
   intro v t;cases hd:o.dst with
   | none=>simp [St.put]
   | some d=>
    simp only [St.put,Option.some.injEq];rw [Dc];by_cases pN:t=d
    · rw [if_pos pN,if_pos pN.symm]
    · rw [if_neg pN,if_neg (Ne.symm pN)]
  have put_bx:∀ v,(St.mk e bx).put o.dst v=⟨((St.mk e bx).put o.dst v).env,bx⟩:=by
   intro v;cases o.dst <;> rfl
  have build:∀ (v0:PV) (n0:List (Nat×Loc)),n0 ⊆ Fc o.op e o.dst->((GA ops e o=some false/\v0=und/\n0=[])\/(GA ops e o=some true/\∀ e' al',(∀ t ∈ tmpsOf o,getT e' t=getT e t)->Bp C call true al' o ⟨e',bx⟩=some (.next ((St.mk e' bx).put o.dst v0) (n0++Ak al' o.dst)))) ->
   evOps C call true ops (l++rest) (n0++Ak al o.dst) ((St.mk e bx).put o.dst v0)=some r->iD C call ops bx rest r (o :: l) e al:=by
   intro v0 n0 ri h0 h1;rw [put_bx] at h1;obtain ⟨v,els,als,N,g0,ga,g1,g2⟩:=cq l _ _ (fun o ho=>hc o (by simp [ho])) h1;refine ⟨fun i=>match i with | 0=>v0 | i+1=>v i,fun i=>match i with | 0=>e | i+1=>els i,fun i=>match i with | 0=>al | i+1=>als i,fun i=>match i with | 0=>n0 | i+1=>N i,rfl,rfl,fun i hi=>?_,g2⟩;cases i with
   | zero=>exact ⟨fun t=>by simp only [g0];exact CP v0 t,by simp only [ga];rfl,ri,h0⟩
   | succ i=>exact g1 i (by simpa using hi)
  simp only [List.cons_append] at h;unfold evOps at h;split at h
  · cases h
  · rename_i hw
    exact build und [] (fun _ h=>by simp at h) (.inl ⟨hw,rfl,rfl⟩) h
  · rename_i hw
    split at h
    · cases h
    · rename_i st1 al1 hs
      obtain ⟨v,hv,Gr⟩:=O7 (hc o (by simp)) hs;injection hv with e1 e2
      subst e1;subst e2;exact build v (Fc o.op e o.dst) (fun _ h=>h) (.inr ⟨hw,Gr⟩) h
    · rename_i v st1 hs
      obtain ⟨v',hv,_⟩:=O7 (hc o (by simp)) hs;cases hv
theorem XV {ops:Array Oper} {o:Oper} {e e':List PV} (h:∀ t ∈ names ops o,getT e' t=getT e t):GA ops e' o=GA ops e o:=by
 unfold GA;split
 · rfl
 · rename_i j want hg
   split
   · rename_i d hd
     rw [h d ?_];unfold names;rw [hg];simp only;rw [hd];simp
   · rfl
theorem Q2:UQ C:=by
 intro call Bn id ops n ex st st' B T S M D a w Q NI EA he h hq;refine wp_region_draw fun t=>?_
 -- the look
 unfold CL at EA;simp only [Aa0] at EA;obtain ⟨S0,Uu⟩:=EA;rw [Aa2] at S0 Uu;generalize hk:GX (Aa8 ops) ops.size=k at Uu;have hkn:k<=ops.size:=by rw [<- hk];exact O6 _ _
 have NJ:∀ i o,ops[i]?=some o->∀ e ∈ o.after.toList,(Aa3 .text e=true->e.on < i) /\
  (Aa3 .gc e=true->((Aac ops.size).map (IX ops)).getD e.on 0 < ((Aac ops.size).map (IX ops)).getD i 0/\e.on < ops.size):=by
  intro i o ho e he
  have hm:(o,i) ∈ ops.toList.zipIdx:=by
   rw [Aa5];simpa using ho
  have:=S0 (o,i) hm;simp only at this;rw [<- Aaj,Aa2] at this;have:=this e he;simp only [Aa0,Aad,Aa9,decide_eq_true_eq] at this;obtain ⟨g1,g2⟩:=this;refine ⟨fun hb=>?_,fun hb=>?_⟩
  · rcases g1 with g1 | g1
    · rw [hb] at g1;cases g1
    · exact g1
  · rcases g2 with g2 | g2
    · rw [hb] at g2;cases g2
    · exact g2
 have Bz:∀ i o,ops[i]?=some o->∀ e ∈ o.after.toList,Aa3 .any e=true->e.on < i:=fun i o ho e he hb=>(NJ i o ho e he).1 (K9 hb)
 -- the order
 have bU:∃ m acc,Aab (C.P.follows .mixedOrders) ops t=acc.reverse/\DB m ops acc/\acc.length=ops.size:=by
  have lt_of:∀ i o,ops[i]?=some o->i < ops.size:=fun i o ho=>(Aaf.1 ho).1;unfold Aab;split
  · obtain ⟨acc,h1,h2,h3⟩:=DC (m:=.any) (ops:=ops) (fun x=>x) (fun i o ho e he hb=>⟨Bz i o ho e he hb,Aae (Bz i o ho e he hb) (lt_of i o ho)⟩) t
    exact ⟨_,acc,h1,h2,h3⟩
  · split
    · obtain ⟨acc,h1,h2,h3⟩:=DC (m:=.text) (ops:=ops) (fun x=>x) (fun i o ho e he hb=>⟨(NJ i o ho e he).1 hb,Aae ((NJ i o ho e he).1 hb) (lt_of i o ho)⟩) (t / 2)
      exact ⟨_,acc,h1,h2,h3⟩
    · obtain ⟨acc,h1,h2,h3⟩:=DC (m:=.gc) (ops:=ops) (fun i=>((Aac ops.size).map (IX ops)).getD i 0) (fun i o ho e he hb=>(NJ i o ho e he).2 hb) (t / 2)
      exact ⟨_,acc,h1,h2,h3⟩
 obtain ⟨m,acc,hs,hg,hlen⟩:=bU;rw [hs];generalize hl:acc.reverse=l;have D5:DB m ops l.reverse:=by rw [<- hl];simpa using hg
 have Lz:l.length=ops.size:=by rw [<- hl];simpa using hlen
 -- the text
 have hsplit:ops.toList=ops.toList.take k++ops.toList.drop k:=(List.take_append_drop k _).symm
 have Dw:∀ i o,i < k->ops[i]?=some o->HA C o=true/\(∀ j o',j < k->ops[j]?=some o'->i≠j->∀ d,o'.dst=some d->d ∈ names ops o->(j < i/\((Aa8 ops).getD i 0).testBit j=true)\/(i < j/\((Aa8 ops).getD j 0).testBit i=true)):=by
  intro i o hi ho
  have mem:∀ j o',j < k->ops[j]?=some o'->(o',j) ∈ (ops.toList.take k).zipIdx:=by
   intro j o' hj Ut;rw [Aa5];simp only;rw [List.getElem?_take_of_lt hj];simpa using Ut
  have h2:=Uu (o,i) (mem i o hi ho);simp only [Aa0] at h2;obtain ⟨⟨⟨g1,_⟩,g3⟩,_⟩:=h2;refine ⟨g1,fun j o' hj Ut hij d hd hn=>?_⟩;rw [Aa2] at g3;have:=g3 (o',j) (mem j o' hj Ut);simp only [Aad,beq_iff_eq,hd,Aa9,Aa0,decide_eq_true_eq] at this;rcases this with this | this
  · exact absurd this hij
  · rcases this with (this | this) | this
    · rw [Aa1.2 hn] at this;cases this
    · exact .inl this
    · exact .inr this
 obtain ⟨e0,bx⟩:=st;rw [hsplit] at he
 obtain ⟨v,els,als,N,hel0,hal0,pO,eu⟩:=cq (ops.toList.take k) e0 [] (fun o ho=>by
  obtain ⟨i,hi,rfl⟩:=List.getElem_of_mem ho;simp only [List.length_take] at hi;have Dp:=Nat.lt_min.1 hi;refine (Dw i _ Dp.1 ?_).1;rw [Aai];simp at Dp |-) he
 have Pn:(ops.toList.take k).length=k:=by simp;omega
 rw [Pn] at eu
 let dst:Nat->Option Tmp:=fun i=>(ops[i]?).bind (·.dst)
 have Bc:∀ i (hi:i < k),ops[i]?=some ((ops.toList.take k)[i]'(by rw [Pn];exact hi)):=by
  intro i hi;rw [Aai];simp
 have hE:∀ i,i<=k->∀ t,getT (els i) t=VU dst v (getT e0) (fun _=>true) i t:=by
  intro i
  induction i with
  | zero=>intro _ t;rw [hel0];rfl
  | succ i ih=>
   intro hi t;rw [(pO i (by rw [Pn];omega)).1 t];simp only [VU];have:dst i=((ops.toList.take k)[i]'(by rw [Pn];omega)).dst:=by simp only [dst];rw [Bc i (by omega)];rfl
   rw [this,ih (by omega) t];simp
 -- what is noted,and by whom
 have hNmem:∀ i,i < k->∀ q ∈ N i,∃ o,ops[i]?=some o/\o.dst=some q.1/\∃ t,q.2=.tmp t/\t ∈ tmpsOf o:=by
  intro i hi q hq;obtain ⟨_,_,hsub,_⟩:=pO i (by rw [Pn];exact hi);obtain ⟨d',t,h1,rfl,_,h2,_⟩:=UN (hsub hq);exact ⟨_,Bc i hi,h1,t,rfl,by unfold tmpsOf;rw [h2];simp [Op.operands]⟩
 have hdstk:∀ i (hi:i < k),dst i=((ops.toList.take k)[i]'(by rw [Pn];exact hi)).dst:=fun i hi=>by simp only [dst];rw [Bc i hi];rfl
 let NB:Nat->Nat×Loc->Prop:=fun i q=>i < k/\q ∈ N i/\∀ j,i < j->j < k->∀ d,dst j=some d->q.1≠d/\q.2≠.tmp d
 have hals:∀ m,m<=k->∀ q ∈ als m,∃ i,i < m/\q ∈ N i/\∀ j,i < j->j < m->∀ d,dst j=some d->q.1≠d/\q.2≠.tmp d:=by
  intro m
  induction m with
  | zero=>intro _ q hq;rw [hal0] at hq;simp at hq
  | succ m ih=>
   intro hm q hq;obtain ⟨_,ha,_,_⟩:=pO m (by rw [Pn];omega);rw [ha] at hq;rcases Aa6.1 hq with hq | hq
   · exact ⟨m,by omega,hq,fun j a b=>by omega⟩
   · obtain ⟨h1,h2⟩:=EU hq
     obtain ⟨i,g1,g2,g3⟩:=ih (by omega) q h1;refine ⟨i,by omega,g2,fun j a b d hd=>?_⟩;by_cases hj:j=m
     · subst hj
       rw [hdstk j (by omega)] at hd;exact h2 d hd
     · exact g3 j a (by omega) d hd
 -- what waits for what
 have htw:∀ i,k<=i->i < ops.size->∀ j,j < i->((Aa8 ops).getD i 0).testBit j=true:=by
  intro i hi NH j hj;exact XU (LD _ _ i (by rw [hk];exact hi) NH) hj
 -- all in one
 have main:∀ (rest p:List Nat) (envl:List PV) (S1:AI) (M1:List Nat) (a1:Act) (w1:World),l=p++rest->(∀ x ∈ p,x < k)->(∀ t,getT envl t=VU dst v (getT e0) (fun j=>p.contains j) k t) ->
  Sim C D B T S1 M1 n ⟨envl,bx⟩ a1 w1->Grows B T S w S1 w1->M <+: M1->(∀ cur:List (Nat×Loc),GJ M1 a1 w1 cur->(∀ i ∈ p,∀ q,NB i q->q ∈ cur)->wpOps C.P ops Q rest a1 w1):=by
  intro rest
  -- what comes when the first part is done
  have finish:∀ (rest p:List Nat) (envl:List PV) (S1:AI) (M1:List Nat) (a1:Act) (w1:World),l=p++rest->(∀ x,x ∈ p↔x < k)->(∀ t,getT envl t=VU dst v (getT e0) (fun j=>p.contains j) k t) ->
   Sim C D B T S1 M1 n ⟨envl,bx⟩ a1 w1->Grows B T S w S1 w1->M <+: M1->(∀ cur:List (Nat×Loc),GJ M1 a1 w1 cur->(∀ i ∈ p,∀ q,NB i q->q ∈ cur)->wpOps C.P ops Q rest a1 w1):=by
   intro rest p envl S1 M1 a1 w1 Xw hp bV Ie Xf Qo cur bW NH;have hrest:=Z3 Bz htw D5 Lz rest p k Xw (Aaa _) hp
   have rj:∀ t,getT (els k) t=getT envl t:=by
    intro t;rw [hE k (Aaa _) t,bV t];exact (MF k (Aaa _) (fun j a b=>by omega) (fun j hj _=>Aa1.2 ((hp j).2 hj))).symm
   have hsim':Sim C D B T S1 M1 n ⟨els k,bx⟩ a1 w1:=Ie.congrEnv rj;have yN:(ops.toList.drop k).length=ops.size - k:=by simp
   rw [hrest,<- yN,wpOps_eq_wpList (ops.toList.drop k) k (fun j=>by rw [List.getElem?_drop];simp)]
   exact CW Bn true ops (ops.toList.drop k) (als k) ⟨els k,bx⟩ S1 M1 a1 w1 (fun o ho=>Eh NI o (List.mem_of_mem_drop ho)) hsim' (fun q hq=>by
    obtain ⟨i,g1,g2,g3⟩:=hals k (Aaa _) q hq;exact bW q (NH i ((hp i).2 g1) q ⟨g1,g2,g3⟩)) eu (hq.of_grows Xf Qo)
  induction rest with
  | nil=>
   intro p envl S1 M1 a1 w1 Xw hp bV Ie Xf Qo cur bW NH;refine finish [] p envl S1 M1 a1 w1 Xw (fun x=>⟨hp x,fun hx=>?_⟩) bV Ie Xf Qo cur bW NH;have:=Kf (l:=l.reverse) (n:=ops.size) D5.nodup (fun i hi=>D5.lt i hi) (by simpa using Lz) x (by omega);rw [Xw] at this;simpa using this
  | cons i q ih=>
   intro p envl S1 M1 a1 w1 Xw hp bV Ie Xf Qo cur bW hcin;have uu:l.reverse=q.reverse++(i :: p.reverse):=by rw [Xw];simp
   have hO:DB m ops (i :: p.reverse):=by rw [uu] at D5;exact D5.suffix _
   have yO:i ∉ p:=by have:=hO.2.1;rwa [Aa4] at this
   by_cases eb:i < k
   · -- one of the first part
     have NH:i < ops.size:=hO.1;have hlen':i < (ops.toList.take k).length:=by rw [Pn];exact eb
     obtain ⟨hstep1,_,_,hstep2⟩:=pO i hlen';have mm:=Bc i eb;generalize (ops.toList.take k)[i]'hlen'=o at hstep1 hstep2 mm;obtain ⟨_,hconf⟩:=Dw i o eb mm
     have hpi:∀ j,((Aa8 ops).getD i 0).testBit j=true->j ∈ p:=fun j hj=>by
      have:=Im Bz i p.reverse hO j hj
      rwa [Aa4] at this
     -- nobody behind it that names the same has been
     have later:∀ t ∈ names ops o,∀ j,i<=j->j < k->p.contains j=true->dst j≠some t:=by
      intro t ht j hij hjk xU hd;rw [Aa1] at xU;have Dz:i≠j:=by rintro rfl;exact yO xU
      cases uw:ops[j]? with
      | none=>simp [dst,uw] at hd
      | some o'=>
       have xW:o'.dst=some t:=by simpa [dst,uw] using hd
       rcases hconf j o' hjk uw Dz t xW ht with ⟨h1,_⟩ | ⟨_,h2⟩
       · omega
       · obtain ⟨x,y,hH⟩:=Aah (show j ∈ p.reverse by simpa using xU)
         have hgj:DB m ops (j :: y):=by
          have:=hO.2.2.2;rw [hH] at this;exact this.suffix x
         have:=Im Bz j y hgj i h2;exact yO (by rw [<- Aa4,hH];simp [this])
     -- what was noted stands
     have keep:∀ (n0:List (Nat×Loc)),n0=N i->∀ i' ∈ p++[i],∀ q,NB i' q->q ∈ n0++Ak cur o.dst:=by
      intro n0 ri i' Dp q mO;rw [Aa6];rcases Aa6.1 Dp with Dp | Dp
      · right
        have hqc:=hcin i' Dp q mO;obtain ⟨g1,g2,g3⟩:=mO;have Dz:i'≠i:=fun e=>yO (by rw [<- e];exact Dp)
        have clash:∀ d,o.dst=some d->q.1≠d/\q.2≠.tmp d:=by
         intro d hd;have hdi0:dst i=some d:=by simp [dst,mm,hd]
         rcases Nat.lt_trichotomy i' i with hlt' | rfl | hgt
         · exact g3 i hlt' eb d hdi0
         · exact absurd rfl Dz
         · obtain ⟨o',Ut,xW,t,ht',htm⟩:=hNmem i' g1 q g2
           obtain ⟨_,hconf'⟩:=Dw i' o' g1 Ut
           have bad:d ∈ names ops o'->False:=by
            intro IP;rcases hconf' i o eb mm Dz d hd IP with ⟨_,h2⟩ | ⟨h1,_⟩
            · obtain ⟨x,y,hH⟩:=Aah (show i' ∈ p.reverse by simpa using Dp)
              have hgj:DB m ops (i' :: y):=by
               have:=hO.2.2.2;rw [hH] at this;exact this.suffix x
              have:=Im Bz i' y hgj i h2;exact yO (by rw [<- Aa4,hH];simp [this])
            · omega
           refine ⟨fun e=>bad ?_,fun e=>bad ?_⟩
           · unfold names;rw [xW,e];simp
           · rw [ht'] at e
             injection e with e
             rw [<- e];unfold names;simp [htm]
        cases hd:o.dst with
        | none=>exact hqc
        | some d=>
         have:=clash d hd;simp only [Ak,List.mem_filter,Aa0,bne_iff_ne];exact ⟨hqc,this⟩
      · left
        simp only [List.mem_singleton] at Dp;subst Dp;rw [ri];exact mO.2.1
     have agree:∀ t ∈ names ops o,getT envl t=getT (els i) t:=by
      intro t ht;rw [bV t,hE i (by omega) t];refine MF k (by omega) (later t ht) (fun j pM hd=>?_);rw [Aa1];cases uw:ops[j]? with
      | none=>simp [dst,uw] at hd
      | some o'=>
       have xW:o'.dst=some t:=by simpa [dst,uw] using hd
       rcases hconf j o' (by omega) uw (by omega) t xW ht with ⟨_,h2⟩ | ⟨h1,_⟩
       · exact hpi j h2
       · omega
     have hdi:dst i=o.dst:=by simp [dst,mm]
     have mQ:∀ j,(p++[i]).contains j=(p.contains j || j == i):=by
      intro j;rw [Bool.eq_iff_iff];simp
     have Ql:∀ t,getT ((St.mk envl bx).put o.dst (v i)).env t=VU dst v (getT e0) (fun j=>(p++[i]).contains j) k t:=by
      intro t;rw [cp (P:=fun j=>p.contains j) mQ k eb (fun j hij hjk xU hd=>later t (by unfold names;rw [hdi] at hd;simp [hd]) j (by omega) hjk xU),hdi,<- bV t];cases hd:o.dst with
      | none=>simp [St.put]
      | some d=>
       simp only [St.put,Option.some.injEq];rw [Dc];by_cases pN:t=d
       · rw [if_pos pN,if_pos pN.symm]
       · rw [if_neg pN,if_neg (Ne.symm pN)]
     have J8:∀ u,(St.mk envl bx).put o.dst u=⟨((St.mk envl bx).put o.dst u).env,bx⟩:=fun u=>by cases o.dst <;> rfl
     have uz:∀ kk,o.dst=some kk->kk < n:=Eh NI o (by
      have:=Aag mm;simpa using this)
     unfold wpOps;rw [mm];simp only;have hwc:=XV (o:=o) agree;rcases hstep2 with ⟨hw,hv,hN0⟩ | ⟨hw,Ez⟩
     · rw [<- hwc] at hw
       rw [I2 Ie hw];simp only [Bool.false_eq_true,if_false];have hput:=Ie.put o.dst uz (.und S1 M1) (fun e xs=>by simp [und]);rw [<- hv,J8] at hput
       exact ih (p++[i]) _ S1 M1 _ w1 (by rw [Xw];simp) (fun x hx=>by
        rcases Aa6.1 hx with hx | hx
        · exact hp x hx
        · simp at hx;omega) Ql hput Xf Qo (Ak cur o.dst) (bW.put Ie.size uz _ (fun _ _ x=>x) (fun _ _=>rfl)) (fun i' Dp q mO=>keep [] hN0.symm i' Dp q mO)
     · rw [<- hwc] at hw
       rw [I2 Ie hw];simp only [if_true]
       left
       refine I0 Ie uz (al:=cur) bW Bn true (Ez envl cur (fun t ht=>agree t (by unfold names;simp [ht]))) _ _ ?_;intro S2 M2 a2 w2 ZG pP Zm hal2;rw [J8] at ZG
       exact ih (p++[i]) _ S2 M2 a2 w2 (by rw [Xw];simp) (fun x hx=>by
        rcases Aa6.1 hx with hx | hx
        · exact hp x hx
        · simp at hx;omega) Ql ZG (Xf.trans pP) (Qo.trans Zm) _ hal2 (keep _ rfl)
   · -- the rest
     refine finish (i :: q) p envl S1 M1 a1 w1 Xw (fun x=>⟨hp x,fun hx=>?_⟩) bV Ie Xf Qo cur bW hcin;have:=Im Bz i p.reverse hO x (htw i (by omega) hO.1 x (by omega))
     rwa [Aa4] at this
 -- a draw turns nothing
 have Zw:Kept S w S { w with drawn:=w.drawn+1 }:=⟨rfl,rfl,rfl,Aaa _,fun _ _=>rfl,AI.le.refl _,fun _ _ _=>rfl,h.holds⟩;refine main l [] e0 S M a _ rfl (fun x hx=>by simp at hx) (fun t=>?_) (h.kept Zw) (Zw.grows h.hB) (Aak _) [] (fun p hp=>by simp at hp) (fun i hi=>by simp at hi)
 have:∀ k,VU dst v (getT e0) (fun j=>([]:List Nat).contains j) k t=getT e0 t:=by
  intro k
  induction k with
  | zero=>rfl
  | succ k ih=>simp only [VU];rw [if_neg (by simp)];exact ih
 exact (this k).symm
theorem DB.any {m:Region.Mode} {ops:Array Oper}:∀ {l:List Nat},DB m ops l->DB .any ops l
 | [],_=>trivial
 | _ :: _,⟨h1,h2,h3,h4⟩=>⟨h1,h2,fun o ho e he hb=>h3 o ho e he (K9 hb),h4.any⟩
theorem eN {ops:Array Oper}:∀ (pre acc:List Nat),DB .any ops (pre++acc)->(pre++acc).reverse ∈ Df ops pre.length acc:=by
 intro pre
 induction hp:pre.length generalizing pre with
 | zero=>
  intro acc h;have:pre=[]:=List.length_eq_zero_iff.1 hp;subst this;simp [Df]
 | succ k ih=>
  intro acc h;have Dz:pre≠[]:=fun e=>by rw [e] at hp;cases hp
  obtain ⟨p,i,rfl⟩:∃ p i,pre=p++[i]:=⟨pre.dropLast,pre.getLast Dz,(List.dropLast_concat_getLast Dz).symm⟩;have hl:p.length=k:=by simpa using hp
  have e:p++[i]++acc=p++(i :: acc):=by simp
  rw [e] at h |-;have hs:=DB.suffix p h;obtain ⟨h1,h2,h3,_⟩:=hs;unfold Df;rw [List.mem_flatMap];refine ⟨i,List.mem_range.2 h1,?_⟩
  have hr:Ka ops acc i=true:=by
   unfold Ka;rw [Aa7 h1];simp only [Aa0,Aa9,Aa2,Aad];refine ⟨by simpa using h2,fun e he=>?_⟩;cases hb:Aa3 .any e with
   | false=>left;rfl
   | true=>
    right
    rw [Aa1];exact h3 _ (Aa7 h1) e he hb
  rw [if_pos hr];exact ih p hl (i :: acc) h
theorem Q3 {P:Program} {ops:Array Oper} {Q:Exit->Act->World->Prop}:∀ (l:List Nat),(∀ i ∈ l,i < ops.size)->wpOps P ops Q l=wpList P ops Q (AR ops l)
 | [],_=>by funext a w;simp [wpOps,AR,wpList]
 | i :: l,h=>by
  have hi:=Aa7 (h i (by simp));have ih:=Q3 (P:=P) (Q:=Q) l (fun j hj=>h j (by simp [hj]))
  funext a w
  unfold AR at ih |-;simp only [List.filterMap_cons,hi,wpOps,wpList,ih]
theorem HS:MD C:=by
 intro call Bn id ops n ex st st' B T S M D a w Q NI EA he h hq;refine wp_region_draw fun t=>?_;have S0:=EA;unfold edgesOK at S0;rw [Aa2] at S0
 have NJ:∀ i o,ops[i]?=some o->∀ e ∈ o.after.toList,(Aa3 .text e=true->e.on < i) /\
  (Aa3 .gc e=true->((Aac ops.size).map (IX ops)).getD e.on 0 < ((Aac ops.size).map (IX ops)).getD i 0/\e.on < ops.size):=by
  intro i o ho e he
  have hm:(o,i) ∈ ops.toList.zipIdx:=by
   rw [Aa5];simpa using ho
  have:=S0 (o,i) hm;simp only at this;rw [<- Aaj,Aa2] at this;have:=this e he;simp only [Aa0,Aad,Aa9,decide_eq_true_eq] at this;obtain ⟨g1,g2⟩:=this;refine ⟨fun hb=>?_,fun hb=>?_⟩
  · rcases g1 with g1 | g1
    · rw [hb] at g1;cases g1
    · exact g1
  · rcases g2 with g2 | g2
    · rw [hb] at g2;cases g2
    · exact g2
 have Bz:∀ i o,ops[i]?=some o->∀ e ∈ o.after.toList,Aa3 .any e=true->e.on < i:=fun i o ho e he hb=>(NJ i o ho e he).1 (K9 hb)
 have bU:∃ m acc,Aab (C.P.follows .mixedOrders) ops t=acc.reverse/\DB m ops acc/\acc.length=ops.size:=by
  have lt_of:∀ i o,ops[i]?=some o->i < ops.size:=fun i o ho=>(Aaf.1 ho).1;unfold Aab;split
  · obtain ⟨acc,h1,h2,h3⟩:=DC (m:=.any) (ops:=ops) (fun x=>x) (fun i o ho e he hb=>⟨Bz i o ho e he hb,Aae (Bz i o ho e he hb) (lt_of i o ho)⟩) t
    exact ⟨_,acc,h1,h2,h3⟩
  · split
    · obtain ⟨acc,h1,h2,h3⟩:=DC (m:=.text) (ops:=ops) (fun x=>x) (fun i o ho e he hb=>⟨(NJ i o ho e he).1 hb,Aae ((NJ i o ho e he).1 hb) (lt_of i o ho)⟩) (t / 2)
      exact ⟨_,acc,h1,h2,h3⟩
    · obtain ⟨acc,h1,h2,h3⟩:=DC (m:=.gc) (ops:=ops) (fun i=>((Aac ops.size).map (IX ops)).getD i 0) (fun i o ho e he hb=>(NJ i o ho e he).2 hb) (t / 2)
      exact ⟨_,acc,h1,h2,h3⟩
 obtain ⟨m,acc,hs,hg,hlen⟩:=bU;rw [hs]
 have IP:acc.reverse ∈ BO ops:=by
  have:=eN acc [] (by rw [Aal];exact hg.any);rw [Aal,hlen] at this;exact this
 obtain ⟨l0,ls,dZ,Zh,hls⟩:=Gi.1 he
 have Ih:QO st.bx.length (DM (evOps C call false ops (AR ops acc.reverse) [] st)) (ex,st'):=by
  rw [dZ] at IP;rcases List.mem_cons.1 IP with e | hm
  · rw [e];exact .inl Zh
  · exact hls _ hm
 rw [Q3 _ (fun i hi=>hg.lt i (by simpa using hi))];have Zw:Kept S w S { w with drawn:=w.drawn+1 }:=⟨rfl,rfl,rfl,Aaa _,fun _ _=>rfl,AI.le.refl _,fun _ _ _=>rfl,h.holds⟩
 have Xn:∃ lO st2,evOps C call false ops (AR ops acc.reverse) [] st=some (lO,st2)/\QO st.bx.length (DM (some (lO,st2))) (ex,st'):=by
  cases hx:evOps C call false ops (AR ops acc.reverse) [] st with
  | none=>
   rw [hx] at Ih;rcases Ih with Ih | ⟨s,Ih,_⟩ <;> cases Ih
  | some r=>rw [hx] at Ih;exact ⟨r.1,r.2,rfl,Ih⟩
 obtain ⟨lO,st2,Ih,Uv⟩:=Xn
 have hq2:Ends C D B T S M n w lO st2 Q:=by
  rcases Uv with Uv | ⟨s,Uv,xT,uv⟩
  · cases lO with
    | pan v=>
     injection Uv with Uv
     injection Uv with e1 e2
     subst e1;subst e2;exact fun S' M' a' w' x u e' _ hs hg hp hr hx=>hq S' M' a' w' x u e' (.inl rfl) hs hg hp hr hx
    | normal=>injection Uv with Uv;injection Uv with e1 e2;subst e1;subst e2;exact hq
    | exit i=>injection Uv with Uv;injection Uv with e1 e2;subst e1;subst e2;exact hq
    | ret=>injection Uv with Uv;injection Uv with e1 e2;subst e1;subst e2;exact hq
  · have xT:ex=.normal:=xT
    subst xT;cases lO with
    | normal=>
     injection Uv with Uv
     injection Uv with _ e2
     subst e2;intro S' M' a' w' hs hg hp;obtain ⟨z,rfl⟩:=hp
     have hz:z.length=2:=by
      have h1:=hs.mlen;have h2:=uv.len;have h3:=h.mlen;rw [List.length_append] at h1;omega
     match z,hz with
     | [b1,b2],_=>exact hq S' _ a' w' (Sim.swap h.mlen hs uv) hg ⟨[b2,b1],rfl⟩
    | pan v=>cases Uv
    | exit i=>cases Uv
    | ret=>cases Uv
 clear hq;have hq:=hq2;refine CW Bn false ops (AR ops acc.reverse) [] st S M a _ (fun o ho=>?_) (h.kept Zw) (fun p hp=>by simp at hp) Ih (hq.of_grows (Zw.grows h.hB) (Aak _));unfold AR at ho;rw [List.mem_filterMap] at ho;obtain ⟨i,_,hi⟩:=ho;refine Eh NI o ?_;have:=Aag hi;simpa using this
end
theorem O8 {C:Cfg} (hh:G6 C) (hp:GP C) (OU:Il C) (k:Nat):DX C (Ff C k):=O5 hh hp OU (F0 hh hp OU Q2 HS k false) (F0 hh hp OU Q2 HS k true)
#print axioms O8
end Go.HH
