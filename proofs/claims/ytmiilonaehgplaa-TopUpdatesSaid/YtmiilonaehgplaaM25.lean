/-
  What the law needs, packed: Draw3.
-/
import Derived.Test.YtmiilonaehgplaaM24
namespace Go.HH
open Go Go.RowKit
section
variable {C:Cfg}
def PreRun (C:Cfg) (call:CallT) (ops:Array Oper) (bx:List PBox) (rest:List Oper) (r:Ex×St) (l:List Oper) (e:List PV) (al:List (Nat×Loc)):Prop:=
 ∃ (v:Nat->PV) (els:Nat->List PV) (als N:Nat->List (Nat×Loc)),els 0=e∧als 0=al ∧
  (∀ i (h:i < l.length),(∀ t,getT (els (i+1)) t=if l[i].dst=some t then v i else getT (els i) t)∧als (i+1)=N i++killT (als i) l[i].dst∧N i ⊆ noteD l[i].op (els i) l[i].dst ∧
   ((wantP ops (els i) l[i]=some false∧v i=und∧N i=[]) ∨
    (wantP ops (els i) l[i]=some true∧∀ e' al',(∀ t ∈ tmpsOf l[i],getT e' t=getT (els i) t)->stepOp C call true al' l[i] ⟨e',bx⟩=some (.next ((St.mk e' bx).put l[i].dst (v i)) (N i++killT al' l[i].dst))))) ∧
  evOps C call true ops rest (als l.length) ⟨els l.length,bx⟩=some r
theorem pre_run {call:CallT} {ops:Array Oper} {bx:List PBox} {rest:List Oper} {r:Ex×St}:∀ (l:List Oper) (e:List PV) (al:List (Nat×Loc)),(∀ o ∈ l,calmO C o=true)->evOps C call true ops (l++rest) al ⟨e,bx⟩=some r ->
 PreRun C call ops bx rest r l e al
 | [],e,al,_,h=>⟨fun _=>und,fun _=>e,fun _=>al,fun _=>[],rfl,rfl,fun i h=>by simp at h,h⟩
 | o :: l,e,al,hc,h=>by
  have put_get:∀ (v:PV) t,getT ((St.mk e bx).put o.dst v).env t=if o.dst=some t then v else getT e t:=by
   intro v t
   cases hd:o.dst with
   | none=>simp [St.put]
   | some d=>
    simp only [St.put,Option.some.injEq]
    rw [getT_setT]
    by_cases hdt:t=d
    · rw [if_pos hdt,if_pos hdt.symm]
    · rw [if_neg hdt,if_neg (Ne.symm hdt)]
  have put_bx:∀ v,(St.mk e bx).put o.dst v=⟨((St.mk e bx).put o.dst v).env,bx⟩:=by
   intro v;cases o.dst <;> rfl
  have build:∀ (v0:PV) (n0:List (Nat×Loc)),n0 ⊆ noteD o.op e o.dst->((wantP ops e o=some false∧v0=und∧n0=[])∨(wantP ops e o=some true∧∀ e' al',(∀ t ∈ tmpsOf o,getT e' t=getT e t)->stepOp C call true al' o ⟨e',bx⟩=some (.next ((St.mk e' bx).put o.dst v0) (n0++killT al' o.dst)))) ->
   evOps C call true ops (l++rest) (n0++killT al o.dst) ((St.mk e bx).put o.dst v0)=some r->PreRun C call ops bx rest r (o :: l) e al:=by
   intro v0 n0 hn0 h0 h1
   rw [put_bx] at h1
   obtain ⟨v,els,als,N,g0,ga,g1,g2⟩:=pre_run l _ _ (fun o ho=>hc o (by simp [ho])) h1
   refine ⟨fun i=>match i with | 0=>v0 | i+1=>v i,fun i=>match i with | 0=>e | i+1=>els i,fun i=>match i with | 0=>al | i+1=>als i,fun i=>match i with | 0=>n0 | i+1=>N i,rfl,rfl,fun i hi=>?_,g2⟩
   cases i with
   | zero=>exact ⟨fun t=>by simp only [g0];exact put_get v0 t,by simp only [ga];rfl,hn0,h0⟩
   | succ i=>exact g1 i (by simpa using hi)
  simp only [List.cons_append] at h
  unfold evOps at h
  split at h
  · cases h
  · rename_i hw
    exact build und [] (fun _ h=>by simp at h) (.inl ⟨hw,rfl,rfl⟩) h
  · rename_i hw
    split at h
    · cases h
    · rename_i st1 al1 hs
      obtain ⟨v,hv,hloc⟩:=stepOp_calm (hc o (by simp)) hs
      injection hv with e1 e2
      subst e1
      subst e2
      exact build v (noteD o.op e o.dst) (fun _ h=>h) (.inr ⟨hw,hloc⟩) h
    · rename_i v st1 hs
      obtain ⟨v',hv,_⟩:=stepOp_calm (hc o (by simp)) hs
      cases hv
theorem wantP_congr {ops:Array Oper} {o:Oper} {e e':List PV} (h:∀ t ∈ names ops o,getT e' t=getT e t):wantP ops e' o=wantP ops e o:=by
 unfold wantP
 split
 · rfl
 · rename_i j want hg
   split
   · rename_i d hd
     rw [h d ?_]
     unfold names
     rw [hg]
     simp only
     rw [hd]
     simp
   · rfl
theorem draw_sound:DrawSound C:=by
 intro call hcall id ops n ex st st' B T S M D a w Q hdst hok he h hq
 refine wp_region_draw fun t=>?_
 -- the look
 unfold drawOK at hok
 rw [Bool.and_eq_true] at hok
 have hok:=hok.1
 unfold drawOK0 at hok
 simp only [Bool.and_eq_true] at hok
 obtain ⟨hok1,hok2⟩:=hok
 rw [List.all_eq_true] at hok1 hok2
 generalize hk:tailFrom (Region.before ops) ops.size=k at hok2
 have hkn:k<=ops.size:=by rw [<- hk];exact tailFrom_le _ _
 have hedge:∀ i o,ops[i]?=some o->∀ e ∈ o.after.toList,(Region.binds .text e=true->e.on < i) ∧
  (Region.binds .gc e=true->((List.range ops.size).map (gcRank ops)).getD e.on 0 < ((List.range ops.size).map (gcRank ops)).getD i 0∧e.on < ops.size):=by
  intro i o ho e he
  have hm:(o,i) ∈ ops.toList.zipIdx:=by
   rw [List.mem_zipIdx_iff_getElem?]
   simpa using ho
  have:=hok1 (o,i) hm
  simp only at this
  rw [<- Array.all_toList,List.all_eq_true] at this
  have:=this e he
  simp only [Bool.and_eq_true,Bool.or_eq_true,Bool.not_eq_true',decide_eq_true_eq] at this
  obtain ⟨g1,g2⟩:=this
  refine ⟨fun hb=>?_,fun hb=>?_⟩
  · rcases g1 with g1 | g1
    · rw [hb] at g1;cases g1
    · exact g1
  · rcases g2 with g2 | g2
    · rw [hb] at g2;cases g2
    · exact g2
 have hlt:∀ i o,ops[i]?=some o->∀ e ∈ o.after.toList,Region.binds .any e=true->e.on < i:=fun i o ho e he hb=>(hedge i o ho e he).1 (binds_any hb)
 -- the order
 have hsched:∃ m acc,Region.schedule (C.P.follows .mixedOrders) ops t=acc.reverse∧GoodR m ops acc∧acc.length=ops.size:=by
  have lt_of:∀ i o,ops[i]?=some o->i < ops.size:=fun i o ho=>(Array.getElem?_eq_some_iff.1 ho).1
  unfold Region.schedule
  split
  · obtain ⟨acc,h1,h2,h3⟩:=linearise_good (m:=.any) (ops:=ops) (fun x=>x) (fun i o ho e he hb=>⟨hlt i o ho e he hb,Nat.lt_trans (hlt i o ho e he hb) (lt_of i o ho)⟩) t
    exact ⟨_,acc,h1,h2,h3⟩
  · split
    · obtain ⟨acc,h1,h2,h3⟩:=linearise_good (m:=.text) (ops:=ops) (fun x=>x) (fun i o ho e he hb=>⟨(hedge i o ho e he).1 hb,Nat.lt_trans ((hedge i o ho e he).1 hb) (lt_of i o ho)⟩) (t / 2)
      exact ⟨_,acc,h1,h2,h3⟩
    · obtain ⟨acc,h1,h2,h3⟩:=linearise_good (m:=.gc) (ops:=ops) (fun i=>((List.range ops.size).map (gcRank ops)).getD i 0) (fun i o ho e he hb=>(hedge i o ho e he).2 hb) (t / 2)
      exact ⟨_,acc,h1,h2,h3⟩
 obtain ⟨m,acc,hs,hg,hlen⟩:=hsched
 rw [hs]
 generalize hl:acc.reverse=l
 have hg':GoodR m ops l.reverse:=by rw [<- hl];simpa using hg
 have hln:l.length=ops.size:=by rw [<- hl];simpa using hlen
 -- the text
 have hsplit:ops.toList=ops.toList.take k++ops.toList.drop k:=(List.take_append_drop k _).symm
 have hpre:∀ i o,i < k->ops[i]?=some o->calmO C o=true∧(∀ j o',j < k->ops[j]?=some o'->i≠j->∀ d,o'.dst=some d->d ∈ names ops o->(j < i∧((Region.before ops).getD i 0).testBit j=true)∨(i < j∧((Region.before ops).getD j 0).testBit i=true)):=by
  intro i o hi ho
  have mem:∀ j o',j < k->ops[j]?=some o'->(o',j) ∈ (ops.toList.take k).zipIdx:=by
   intro j o' hj ho'
   rw [List.mem_zipIdx_iff_getElem?]
   simp only
   rw [List.getElem?_take_of_lt hj]
   simpa using ho'
  have h2:=hok2 (o,i) (mem i o hi ho)
  simp only [Bool.and_eq_true] at h2
  obtain ⟨⟨⟨g1,_⟩,g3⟩,_⟩:=h2
  refine ⟨g1,fun j o' hj ho' hij d hd hn=>?_⟩
  rw [List.all_eq_true] at g3
  have:=g3 (o',j) (mem j o' hj ho')
  simp only [Bool.or_eq_true,beq_iff_eq,hd,Bool.not_eq_true',Bool.and_eq_true,decide_eq_true_eq] at this
  rcases this with this | this
  · exact absurd this hij
  · rcases this with (this | this) | this
    · rw [List.contains_iff_mem.2 hn] at this;cases this
    · exact .inl this
    · exact .inr this
 obtain ⟨e0,bx⟩:=st
 rw [hsplit] at he
 obtain ⟨v,els,als,N,hel0,hal0,hels,htail⟩:=pre_run (ops.toList.take k) e0 [] (fun o ho=>by
  obtain ⟨i,hi,rfl⟩:=List.getElem_of_mem ho
  simp only [List.length_take] at hi
  have hi':=Nat.lt_min.1 hi
  refine (hpre i _ hi'.1 ?_).1
  rw [List.getElem_take]
  simp at hi' ⊢) he
 have hplen:(ops.toList.take k).length=k:=by simp;omega
 rw [hplen] at htail
 let dst:Nat->Option Tmp:=fun i=>(ops[i]?).bind (·.dst)
 have hop:∀ i (hi:i < k),ops[i]?=some ((ops.toList.take k)[i]'(by rw [hplen];exact hi)):=by
  intro i hi
  rw [List.getElem_take]
  simp
 have hE:∀ i,i<=k->∀ t,getT (els i) t=edv dst v (getT e0) (fun _=>true) i t:=by
  intro i
  induction i with
  | zero=>intro _ t;rw [hel0];rfl
  | succ i ih=>
   intro hi t
   rw [(hels i (by rw [hplen];omega)).1 t]
   simp only [edv]
   have:dst i=((ops.toList.take k)[i]'(by rw [hplen];omega)).dst:=by simp only [dst];rw [hop i (by omega)];rfl
   rw [this,ih (by omega) t]
   simp
 -- what is noted,and by whom
 have hNmem:∀ i,i < k->∀ q ∈ N i,∃ o,ops[i]?=some o∧o.dst=some q.1∧∃ t,q.2=.tmp t∧t ∈ tmpsOf o:=by
  intro i hi q hq
  obtain ⟨_,_,hsub,_⟩:=hels i (by rw [hplen];exact hi)
  obtain ⟨d',t,h1,rfl,_,h2,_⟩:=noteD_mem (hsub hq)
  exact ⟨_,hop i hi,h1,t,rfl,by unfold tmpsOf;rw [h2];simp [Op.operands]⟩
 have hdstk:∀ i (hi:i < k),dst i=((ops.toList.take k)[i]'(by rw [hplen];exact hi)).dst:=fun i hi=>by simp only [dst];rw [hop i hi];rfl
 let NB:Nat->Nat×Loc->Prop:=fun i q=>i < k∧q ∈ N i∧∀ j,i < j->j < k->∀ d,dst j=some d->q.1≠d∧q.2≠.tmp d
 have hals:∀ m,m<=k->∀ q ∈ als m,∃ i,i < m∧q ∈ N i∧∀ j,i < j->j < m->∀ d,dst j=some d->q.1≠d∧q.2≠.tmp d:=by
  intro m
  induction m with
  | zero=>intro _ q hq;rw [hal0] at hq;simp at hq
  | succ m ih=>
   intro hm q hq
   obtain ⟨_,ha,_,_⟩:=hels m (by rw [hplen];omega)
   rw [ha] at hq
   rcases List.mem_append.1 hq with hq | hq
   · exact ⟨m,by omega,hq,fun j a b=>by omega⟩
   · obtain ⟨h1,h2⟩:=killT_mem hq
     obtain ⟨i,g1,g2,g3⟩:=ih (by omega) q h1
     refine ⟨i,by omega,g2,fun j a b d hd=>?_⟩
     by_cases hj:j=m
     · subst hj
       rw [hdstk j (by omega)] at hd
       exact h2 d hd
     · exact g3 j a (by omega) d hd
 -- what waits for what
 have htw:∀ i,k<=i->i < ops.size->∀ j,j < i->((Region.before ops).getD i 0).testBit j=true:=by
  intro i hi hin j hj
  exact subBits_get (tailFrom_spec _ _ i (by rw [hk];exact hi) hin) hj
 -- all in one
 have main:∀ (rest p:List Nat) (envl:List PV) (S1:Store) (M1:List Nat) (a1:Act) (w1:World),l=p++rest->(∀ x ∈ p,x < k)->(∀ t,getT envl t=edv dst v (getT e0) (fun j=>p.contains j) k t) ->
  Sim C D B T S1 M1 n ⟨envl,bx⟩ a1 w1->Grows B T S w S1 w1->M <+: M1->(∀ cur:List (Nat×Loc),AlOK M1 a1 w1 cur->(∀ i ∈ p,∀ q,NB i q->q ∈ cur)->wpOps C.P ops Q rest a1 w1):=by
  intro rest
  -- what comes when the first part is done
  have finish:∀ (rest p:List Nat) (envl:List PV) (S1:Store) (M1:List Nat) (a1:Act) (w1:World),l=p++rest->(∀ x,x ∈ p↔x < k)->(∀ t,getT envl t=edv dst v (getT e0) (fun j=>p.contains j) k t) ->
   Sim C D B T S1 M1 n ⟨envl,bx⟩ a1 w1->Grows B T S w S1 w1->M <+: M1->(∀ cur:List (Nat×Loc),AlOK M1 a1 w1 cur->(∀ i ∈ p,∀ q,NB i q->q ∈ cur)->wpOps C.P ops Q rest a1 w1):=by
   intro rest p envl S1 M1 a1 w1 hlp hp henv hsim hgr hpr cur hcur hin
   have hrest:=rest_range hlt htw hg' hln rest p k hlp (Nat.le_refl _) hp
   have hk':∀ t,getT (els k) t=getT envl t:=by
    intro t
    rw [hE k (Nat.le_refl _) t,henv t]
    exact (edv_text k (Nat.le_refl _) (fun j a b=>by omega) (fun j hj _=>List.contains_iff_mem.2 ((hp j).2 hj))).symm
   have hsim':Sim C D B T S1 M1 n ⟨els k,bx⟩ a1 w1:=hsim.congrEnv hk'
   have hdl:(ops.toList.drop k).length=ops.size - k:=by simp
   rw [hrest,<- hdl,wpOps_eq_wpList (ops.toList.drop k) k (fun j=>by rw [List.getElem?_drop];simp)]
   exact evOps_sound hcall true ops (ops.toList.drop k) (als k) ⟨els k,bx⟩ S1 M1 a1 w1 (fun o ho=>dstOK_mem hdst o (List.mem_of_mem_drop ho)) hsim' (fun q hq=>by
    obtain ⟨i,g1,g2,g3⟩:=hals k (Nat.le_refl _) q hq
    exact hcur q (hin i ((hp i).2 g1) q ⟨g1,g2,g3⟩)) htail (hq.of_grows hgr hpr)
  induction rest with
  | nil=>
   intro p envl S1 M1 a1 w1 hlp hp henv hsim hgr hpr cur hcur hin
   refine finish [] p envl S1 M1 a1 w1 hlp (fun x=>⟨hp x,fun hx=>?_⟩) henv hsim hgr hpr cur hcur hin
   have:=full_of_length (l:=l.reverse) (n:=ops.size) hg'.nodup (fun i hi=>hg'.lt i hi) (by simpa using hln) x (by omega)
   rw [hlp] at this
   simpa using this
  | cons i q ih=>
   intro p envl S1 M1 a1 w1 hlp hp henv hsim hgr hpr cur hcur hcin
   have hrev:l.reverse=q.reverse++(i :: p.reverse):=by rw [hlp];simp
   have hgi:GoodR m ops (i :: p.reverse):=by rw [hrev] at hg';exact hg'.suffix _
   have hip:i ∉ p:=by have:=hgi.2.1;rwa [List.mem_reverse] at this
   by_cases hik:i < k
   · -- one of the first part
     have hin:i < ops.size:=hgi.1
     have hlen':i < (ops.toList.take k).length:=by rw [hplen];exact hik
     obtain ⟨hstep1,_,_,hstep2⟩:=hels i hlen'
     have hoi:=hop i hik
     generalize (ops.toList.take k)[i]'hlen'=o at hstep1 hstep2 hoi
     obtain ⟨_,hconf⟩:=hpre i o hik hoi
     have hpi:∀ j,((Region.before ops).getD i 0).testBit j=true->j ∈ p:=fun j hj=>by
      have:=before_in hlt i p.reverse hgi j hj
      rwa [List.mem_reverse] at this
     -- nobody behind it that names the same has been
     have later:∀ t ∈ names ops o,∀ j,i<=j->j < k->p.contains j=true->dst j≠some t:=by
      intro t ht j hij hjk hpj hd
      rw [List.contains_iff_mem] at hpj
      have hne:i≠j:=by rintro rfl;exact hip hpj
      cases hoj:ops[j]? with
      | none=>simp [dst,hoj] at hd
      | some o'=>
       have hd':o'.dst=some t:=by simpa [dst,hoj] using hd
       rcases hconf j o' hjk hoj hne t hd' ht with ⟨h1,_⟩ | ⟨_,h2⟩
       · omega
       · obtain ⟨x,y,hxy⟩:=List.append_of_mem (show j ∈ p.reverse by simpa using hpj)
         have hgj:GoodR m ops (j :: y):=by
          have:=hgi.2.2.2
          rw [hxy] at this
          exact this.suffix x
         have:=before_in hlt j y hgj i h2
         exact hip (by rw [<- List.mem_reverse,hxy];simp [this])
     -- what was noted stands
     have keep:∀ (n0:List (Nat×Loc)),n0=N i->∀ i' ∈ p++[i],∀ q,NB i' q->q ∈ n0++killT cur o.dst:=by
      intro n0 hn0 i' hi' q hnb
      rw [List.mem_append]
      rcases List.mem_append.1 hi' with hi' | hi'
      · right
        have hqc:=hcin i' hi' q hnb
        obtain ⟨g1,g2,g3⟩:=hnb
        have hne:i'≠i:=fun e=>hip (by rw [<- e];exact hi')
        have clash:∀ d,o.dst=some d->q.1≠d∧q.2≠.tmp d:=by
         intro d hd
         have hdi0:dst i=some d:=by simp [dst,hoi,hd]
         rcases Nat.lt_trichotomy i' i with hlt' | rfl | hgt
         · exact g3 i hlt' hik d hdi0
         · exact absurd rfl hne
         · obtain ⟨o',ho',hd',t,ht',htm⟩:=hNmem i' g1 q g2
           obtain ⟨_,hconf'⟩:=hpre i' o' g1 ho'
           have bad:d ∈ names ops o'->False:=by
            intro hmem
            rcases hconf' i o hik hoi hne d hd hmem with ⟨_,h2⟩ | ⟨h1,_⟩
            · obtain ⟨x,y,hxy⟩:=List.append_of_mem (show i' ∈ p.reverse by simpa using hi')
              have hgj:GoodR m ops (i' :: y):=by
               have:=hgi.2.2.2
               rw [hxy] at this
               exact this.suffix x
              have:=before_in hlt i' y hgj i h2
              exact hip (by rw [<- List.mem_reverse,hxy];simp [this])
            · omega
           refine ⟨fun e=>bad ?_,fun e=>bad ?_⟩
           · unfold names;rw [hd',e];simp
           · rw [ht'] at e
             injection e with e
             rw [<- e]
             unfold names
             simp [htm]
        cases hd:o.dst with
        | none=>exact hqc
        | some d=>
         have:=clash d hd
         simp only [killT,List.mem_filter,Bool.and_eq_true,bne_iff_ne]
         exact ⟨hqc,this⟩
      · left
        simp only [List.mem_singleton] at hi'
        subst hi'
        rw [hn0]
        exact hnb.2.1
     have agree:∀ t ∈ names ops o,getT envl t=getT (els i) t:=by
      intro t ht
      rw [henv t,hE i (by omega) t]
      refine edv_text k (by omega) (later t ht) (fun j hji hd=>?_)
      rw [List.contains_iff_mem]
      cases hoj:ops[j]? with
      | none=>simp [dst,hoj] at hd
      | some o'=>
       have hd':o'.dst=some t:=by simpa [dst,hoj] using hd
       rcases hconf j o' (by omega) hoj (by omega) t hd' ht with ⟨_,h2⟩ | ⟨h1,_⟩
       · exact hpi j h2
       · omega
     have hdi:dst i=o.dst:=by simp [dst,hoi]
     have hP':∀ j,(p++[i]).contains j=(p.contains j || j == i):=by
      intro j
      rw [Bool.eq_iff_iff]
      simp
     have hnew:∀ t,getT ((St.mk envl bx).put o.dst (v i)).env t=edv dst v (getT e0) (fun j=>(p++[i]).contains j) k t:=by
      intro t
      rw [edv_add (P:=fun j=>p.contains j) hP' k hik (fun j hij hjk hpj hd=>later t (by unfold names;rw [hdi] at hd;simp [hd]) j (by omega) hjk hpj),hdi,<- henv t]
      cases hd:o.dst with
      | none=>simp [St.put]
      | some d=>
       simp only [St.put,Option.some.injEq]
       rw [getT_setT]
       by_cases hdt:t=d
       · rw [if_pos hdt,if_pos hdt.symm]
       · rw [if_neg hdt,if_neg (Ne.symm hdt)]
     have hbx:∀ u,(St.mk envl bx).put o.dst u=⟨((St.mk envl bx).put o.dst u).env,bx⟩:=fun u=>by cases o.dst <;> rfl
     have hdlt:∀ kk,o.dst=some kk->kk < n:=dstOK_mem hdst o (by
      have:=Array.mem_of_getElem? hoi
      simpa using this)
     unfold wpOps
     rw [hoi]
     simp only
     have hwc:=wantP_congr (o:=o) agree
     rcases hstep2 with ⟨hw,hv,hN0⟩ | ⟨hw,hst⟩
     · rw [<- hwc] at hw
       rw [wantP_some hsim hw]
       simp only [Bool.false_eq_true,if_false]
       have hput:=hsim.put o.dst hdlt (.und S1 M1) (fun e xs=>by simp [und])
       rw [<- hv,hbx] at hput
       exact ih (p++[i]) _ S1 M1 _ w1 (by rw [hlp];simp) (fun x hx=>by
        rcases List.mem_append.1 hx with hx | hx
        · exact hp x hx
        · simp at hx;omega) hnew hput hgr hpr (killT cur o.dst) (hcur.put hsim.size hdlt _ (fun _ _ x=>x) (fun _ _=>rfl)) (fun i' hi' q hnb=>keep [] hN0.symm i' hi' q hnb)
     · rw [<- hwc] at hw
       rw [wantP_some hsim hw]
       simp only [if_true]
       left
       refine stepOp_sound hsim hdlt (al:=cur) hcur hcall true (hst envl cur (fun t ht=>agree t (by unfold names;simp [ht]))) _ _ ?_
       intro S2 M2 a2 w2 hs2 hg2 hp2 hal2
       rw [hbx] at hs2
       exact ih (p++[i]) _ S2 M2 a2 w2 (by rw [hlp];simp) (fun x hx=>by
        rcases List.mem_append.1 hx with hx | hx
        · exact hp x hx
        · simp at hx;omega) hnew hs2 (hgr.trans hg2) (hpr.trans hp2) _ hal2 (keep _ rfl)
   · -- the rest
     refine finish (i :: q) p envl S1 M1 a1 w1 hlp (fun x=>⟨hp x,fun hx=>?_⟩) henv hsim hgr hpr cur hcur hcin
     have:=before_in hlt i p.reverse hgi x (htw i (by omega) hgi.1 x (by omega))
     rwa [List.mem_reverse] at this
 -- a draw turns nothing
 have hdrew:Kept S w S { w with drawn:=w.drawn+1 }:=⟨rfl,rfl,rfl,Nat.le_refl _,fun _ _=>rfl,Store.le.refl _,fun _ _ _=>rfl,h.holds⟩
 refine main l [] e0 S M a _ rfl (fun x hx=>by simp at hx) (fun t=>?_) (h.kept hdrew) (hdrew.grows h.hB) (List.prefix_refl _) [] (fun p hp=>by simp at hp) (fun i hi=>by simp at hi)
 have:∀ k,edv dst v (getT e0) (fun j=>([]:List Nat).contains j) k t=getT e0 t:=by
  intro k
  induction k with
  | zero=>rfl
  | succ k ih=>simp only [edv];rw [if_neg (by simp)];exact ih
 exact (this k).symm
theorem GoodR.any {m:Region.Mode} {ops:Array Oper}:∀ {l:List Nat},GoodR m ops l->GoodR .any ops l
 | [],_=>trivial
 | _ :: _,⟨h1,h2,h3,h4⟩=>⟨h1,h2,fun o ho e he hb=>h3 o ho e he (binds_any hb),h4.any⟩
theorem order_mem {ops:Array Oper}:∀ (pre acc:List Nat),GoodR .any ops (pre++acc)->(pre++acc).reverse ∈ orderGo ops pre.length acc:=by
 intro pre
 induction hp:pre.length generalizing pre with
 | zero=>
  intro acc h
  have:pre=[]:=List.length_eq_zero_iff.1 hp
  subst this
  simp [orderGo]
 | succ k ih=>
  intro acc h
  have hne:pre≠[]:=fun e=>by rw [e] at hp;cases hp
  obtain ⟨p,i,rfl⟩:∃ p i,pre=p++[i]:=⟨pre.dropLast,pre.getLast hne,(List.dropLast_concat_getLast hne).symm⟩
  have hl:p.length=k:=by simpa using hp
  have e:p++[i]++acc=p++(i :: acc):=by simp
  rw [e] at h ⊢
  have hs:=GoodR.suffix p h
  obtain ⟨h1,h2,h3,_⟩:=hs
  unfold orderGo
  rw [List.mem_flatMap]
  refine ⟨i,List.mem_range.2 h1,?_⟩
  have hr:readyB ops acc i=true:=by
   unfold readyB
   rw [Array.getElem?_eq_getElem h1]
   simp only [Bool.and_eq_true,Bool.not_eq_true',List.all_eq_true,Bool.or_eq_true]
   refine ⟨by simpa using h2,fun e he=>?_⟩
   cases hb:Region.binds .any e with
   | false=>left;rfl
   | true=>
    right
    rw [List.contains_iff_mem]
    exact h3 _ (Array.getElem?_eq_getElem h1) e he hb
  rw [if_pos hr]
  exact ih p hl (i :: acc) h
theorem wpOps_pick {P:Program} {ops:Array Oper} {Q:Exit->Act->World->Prop}:∀ (l:List Nat),(∀ i ∈ l,i < ops.size)->wpOps P ops Q l=wpList P ops Q (pickOps ops l)
 | [],_=>by funext a w;simp [wpOps,pickOps,wpList]
 | i :: l,h=>by
  have hi:=Array.getElem?_eq_getElem (h i (by simp))
  have ih:=wpOps_pick (P:=P) (Q:=Q) l (fun j hj=>h j (by simp [hj]))
  funext a w
  unfold pickOps at ih ⊢
  simp only [List.filterMap_cons,hi,wpOps,wpList,ih]
theorem drawAll_sound:DrawAllSound C:=by
 intro call hcall id ops n ex st st' B T S M D a w Q hdst hok he h hq
 refine wp_region_draw fun t=>?_
 have hok1:=hok
 unfold edgesOK at hok1
 rw [List.all_eq_true] at hok1
 have hedge:∀ i o,ops[i]?=some o->∀ e ∈ o.after.toList,(Region.binds .text e=true->e.on < i) ∧
  (Region.binds .gc e=true->((List.range ops.size).map (gcRank ops)).getD e.on 0 < ((List.range ops.size).map (gcRank ops)).getD i 0∧e.on < ops.size):=by
  intro i o ho e he
  have hm:(o,i) ∈ ops.toList.zipIdx:=by
   rw [List.mem_zipIdx_iff_getElem?]
   simpa using ho
  have:=hok1 (o,i) hm
  simp only at this
  rw [<- Array.all_toList,List.all_eq_true] at this
  have:=this e he
  simp only [Bool.and_eq_true,Bool.or_eq_true,Bool.not_eq_true',decide_eq_true_eq] at this
  obtain ⟨g1,g2⟩:=this
  refine ⟨fun hb=>?_,fun hb=>?_⟩
  · rcases g1 with g1 | g1
    · rw [hb] at g1;cases g1
    · exact g1
  · rcases g2 with g2 | g2
    · rw [hb] at g2;cases g2
    · exact g2
 have hlt:∀ i o,ops[i]?=some o->∀ e ∈ o.after.toList,Region.binds .any e=true->e.on < i:=fun i o ho e he hb=>(hedge i o ho e he).1 (binds_any hb)
 have hsched:∃ m acc,Region.schedule (C.P.follows .mixedOrders) ops t=acc.reverse∧GoodR m ops acc∧acc.length=ops.size:=by
  have lt_of:∀ i o,ops[i]?=some o->i < ops.size:=fun i o ho=>(Array.getElem?_eq_some_iff.1 ho).1
  unfold Region.schedule
  split
  · obtain ⟨acc,h1,h2,h3⟩:=linearise_good (m:=.any) (ops:=ops) (fun x=>x) (fun i o ho e he hb=>⟨hlt i o ho e he hb,Nat.lt_trans (hlt i o ho e he hb) (lt_of i o ho)⟩) t
    exact ⟨_,acc,h1,h2,h3⟩
  · split
    · obtain ⟨acc,h1,h2,h3⟩:=linearise_good (m:=.text) (ops:=ops) (fun x=>x) (fun i o ho e he hb=>⟨(hedge i o ho e he).1 hb,Nat.lt_trans ((hedge i o ho e he).1 hb) (lt_of i o ho)⟩) (t / 2)
      exact ⟨_,acc,h1,h2,h3⟩
    · obtain ⟨acc,h1,h2,h3⟩:=linearise_good (m:=.gc) (ops:=ops) (fun i=>((List.range ops.size).map (gcRank ops)).getD i 0) (fun i o ho e he hb=>(hedge i o ho e he).2 hb) (t / 2)
      exact ⟨_,acc,h1,h2,h3⟩
 obtain ⟨m,acc,hs,hg,hlen⟩:=hsched
 rw [hs]
 have hmem:acc.reverse ∈ orders ops:=by
  have:=order_mem acc [] (by rw [List.append_nil];exact hg.any)
  rw [List.append_nil,hlen] at this
  exact this
 obtain ⟨l0,ls,hlo,hl0,hls⟩:=drawAll_out.1 he
 have hev:OutOf st.bx.length (normP (evOps C call false ops (pickOps ops acc.reverse) [] st)) (ex,st'):=by
  rw [hlo] at hmem
  rcases List.mem_cons.1 hmem with e | hm
  · rw [e];exact .inl hl0
  · exact hls _ hm
 rw [wpOps_pick _ (fun i hi=>hg.lt i (by simpa using hi))]
 have hdrew:Kept S w S { w with drawn:=w.drawn+1 }:=⟨rfl,rfl,rfl,Nat.le_refl _,fun _ _=>rfl,Store.le.refl _,fun _ _ _=>rfl,h.holds⟩
 have hev2:∃ ex2 st2,evOps C call false ops (pickOps ops acc.reverse) [] st=some (ex2,st2)∧OutOf st.bx.length (normP (some (ex2,st2))) (ex,st'):=by
  cases hx:evOps C call false ops (pickOps ops acc.reverse) [] st with
  | none=>
   rw [hx] at hev
   rcases hev with hev | ⟨s,hev,_⟩ <;> cases hev
  | some r=>rw [hx] at hev;exact ⟨r.1,r.2,rfl,hev⟩
 obtain ⟨ex2,st2,hev,hnp⟩:=hev2
 have hq2:Ends C D B T S M n w ex2 st2 Q:=by
  rcases hnp with hnp | ⟨s,hnp,hn2,hn3⟩
  · cases ex2 with
    | pan v=>
     injection hnp with hnp
     injection hnp with e1 e2
     subst e1
     subst e2
     exact fun S' M' a' w' x u e' _ hs hg hp hr hx=>hq S' M' a' w' x u e' (.inl rfl) hs hg hp hr hx
    | normal=>injection hnp with hnp;injection hnp with e1 e2;subst e1;subst e2;exact hq
    | exit i=>injection hnp with hnp;injection hnp with e1 e2;subst e1;subst e2;exact hq
    | ret=>injection hnp with hnp;injection hnp with e1 e2;subst e1;subst e2;exact hq
  · have hn2:ex=.normal:=hn2
    subst hn2
    cases ex2 with
    | normal=>
     injection hnp with hnp
     injection hnp with _ e2
     subst e2
     intro S' M' a' w' hs hg hp
     obtain ⟨z,rfl⟩:=hp
     have hz:z.length=2:=by
      have h1:=hs.mlen
      have h2:=hn3.len
      have h3:=h.mlen
      rw [List.length_append] at h1
      omega
     match z,hz with
     | [b1,b2],_=>exact hq S' _ a' w' (Sim.swap h.mlen hs hn3) hg ⟨[b2,b1],rfl⟩
    | pan v=>cases hnp
    | exit i=>cases hnp
    | ret=>cases hnp
 clear hq
 have hq:=hq2
 refine evOps_sound hcall false ops (pickOps ops acc.reverse) [] st S M a _ (fun o ho=>?_) (h.kept hdrew) (fun p hp=>by simp at hp) hev (hq.of_grows (hdrew.grows h.hB) (List.prefix_refl _))
 unfold pickOps at ho
 rw [List.mem_filterMap] at ho
 obtain ⟨i,_,hi⟩:=ho
 refine dstOK_mem hdst o ?_
 have:=Array.mem_of_getElem? hi
 simpa using this
end
theorem callF_sound {C:Cfg} (hh:HPrimSound C) (hp:PrimSound C) (hcat:CatSound C) (k:Nat):CallSound C (callF C k):=bodyP_sound hh hp hcat (evFB_sound hh hp hcat draw_sound drawAll_sound k false) (evFB_sound hh hp hcat draw_sound drawAll_sound k true)
#print axioms callF_sound
end Go.HH
