/-
  What the law needs, packed: Code.
-/
import Derived.Test.YtmiilonaehgplaaM19
namespace Go.HH
open Go Go.RowKit
def PrimSound (C:Cfg):Prop:=
 ∀ (f:FuncId) (g:List PV->Option PV),C.prim f=some g->HasBody C.P f∧∀ (args:List PV) (r:PV),g args=some r->(∀ t xs,r≠.osl t xs) ∧
  ∀ (S:Store) (vs:List Value) (w:World),(∀ b o v,S b o=some v->w.cell? ⟨b,o,none⟩=some v) ->
   (∀ g cs,C.glob g=some cs->Rep S [] (.ip cs) (.pointer (some ⟨g,0,none⟩)))->(∀ g cs,C.glob g=some cs->∃ c e f,w.heap[g]?=some (.cells c e f)∧c.size=cs.length)->RepL S [] args vs ->
   Calls C.P f vs.toArray w fun e w'=>∃ S',Kept S w S' w'∧∃ v,e=.returned v∧Rep S' [] r v
def HPrimSound (C:Cfg):Prop:=
 ∀ (f:FuncId) (g:List PV->List PBox->Option (Bool×PV×List PBox)),C.hprim f=some g->∀ (args:List PV) (bx:List PBox) (p:Bool) (v:PV) (bx':List PBox),g args bx=some (p,v,bx') ->
  HasBody C.P f∧((∀ p ∈ args,∀ t xs,p≠.osl t xs) ->
   ∀ (B:Nat) (T:Nat->Prop) (S:Store) (M:List Nat) (vs:List Value) (w:World),HSim C B T S M bx w->RepL S M args vs ->
    Calls C.P f vs.toArray w fun e w'=>∃ S' M',HSim C B T S' M' bx' w'∧Grows B T S w S' w'∧M <+: M'∧Outcome S' M' (if p then .pan v else .ret v) e)
def DrawSound (C:Cfg):Prop:=
 ∀ (call:CallT),CallSound C call->∀ (id:Nat) (ops:Array Oper) (n:Nat) (ex:Ex) (st st':St) (B:Nat) (T:Nat->Prop) (S:Store) (M:List Nat) (D:List Deferred) (a:Act) (w:World) (Q:Exit->Act->World->Prop),
  dstOK n ops=true->drawOK C ops=true->evOps C call true ops ops.toList [] st=some (ex,st')->Sim C D B T S M n st a w->Ends C D B T S M n w ex st' Q->(Code.region id ops true).wp C.P Q a w
def DrawAllSound (C:Cfg):Prop:=
 ∀ (call:CallT),CallSound C call->∀ (id:Nat) (ops:Array Oper) (n:Nat) (ex:Ex) (st st':St) (B:Nat) (T:Nat->Prop) (S:Store) (M:List Nat) (D:List Deferred) (a:Act) (w:World) (Q:Exit->Act->World->Prop),
  dstOK n ops=true->edgesOK ops=true->drawAll C call ops st=some (ex,st')->Sim C D B T S M n st a w->Ends C D B T S M n w ex st' Q->(Code.region id ops true).wp C.P Q a w
theorem wp_loop_counted {P:Program} {Q:Exit->Act->World->Prop} {c:Code} (I:Nat->Act->World->Prop) (h0:∀ a w,¬ I 0 a w)
 (round:∀ j a w,I (j+1) a w->c.wp P (Exit.then (fun a' w'=>I j a' w') Q) a w) {j:Nat} {a:Act} {w:World} (h:I j a w):(Code.loop c).wp P Q a w:=by
 intro b k cs
 have key:∀ j a w,I j a w->∃ e a' w',Q e a' w'∧Arrives P (lone (b.at a (.code c :: .inLoop c :: k)) cs w) b k cs e a' w':=by
  intro j
  induction j with
  | zero=>intro a w h;exact absurd h (h0 a w)
  | succ j ih=>
   intro a w hI
   obtain ⟨e,a₁,w₁,hq,harr⟩:=round j a w hI b (.inLoop c :: k) cs
   cases e with
   | normal=>
    obtain ⟨e₂,a₂,w₂,hq₂,harr₂⟩:=ih a₁ w₁ hq
    exact ⟨e₂,a₂,w₂,hq₂,.of_steps (Steps.trans harr (.one step_inLoop)) harr₂⟩
   | exit id=>exact ⟨_,a₁,w₁,hq,.pass (x:=.inLoop c) rfl (fun _ _=>.inl (by simp)) harr⟩
   | goto l=>exact ⟨_,a₁,w₁,hq,.pass (x:=.inLoop c) rfl (fun _ _=>.inl (by simp)) harr⟩
   | ret=>exact ⟨_,a₁,w₁,hq,.pass (x:=.inLoop c) rfl (fun _ _=>.inl (by simp)) harr⟩
   | panic ch=>exact ⟨_,a₁,w₁,hq,.pass (x:=.inLoop c) rfl (fun _ _=>.inl (by simp)) harr⟩
   | outgrown=>exact ⟨_,a₁,w₁,hq,.pass (x:=.inLoop c) rfl (fun _ _=>.inl (by simp)) harr⟩
 obtain ⟨e,a',w',hq,harr⟩:=key j a w h
 exact ⟨e,a',w',hq,.of_steps (.one step_loop) harr⟩
section
variable {C:Cfg} {D:List Deferred} {B:Nat} {T:Nat->Prop} {S:Store} {M:List Nat} {n:Nat} {st:St} {a:Act} {w:World}
theorem dstOK_mem {ops:Array Oper} (h:dstOK n ops=true):∀ o ∈ ops.toList,∀ k,o.dst=some k->k < n:=by
 intro o ho k hk
 unfold dstOK at h
 rw [List.all_eq_true] at h
 have:=h o ho
 rw [hk] at this
 simpa using this
theorem mapM_run {α:Type} (g:α->Sem Value):∀ (l:List α) (vs:List Value),l.length=vs.length->(∀ i (h:i < l.length) (h':i < vs.length),(g l[i]).run C.P w=.ok vs[i] w)->(l.mapM g).run C.P w=.ok vs w
 | [],vs,hl,_=>by
  have:vs=[]:=List.eq_nil_of_length_eq_zero hl.symm
  subst this
  simp
 | x :: r,vs,hl,h=>by
  cases vs with
  | nil=>simp at hl
  | cons v vs=>
   have h0:=h 0 (by simp) (by simp)
   simp only [List.getElem_cons_zero] at h0
   have ih:=mapM_run g r vs (by simpa using hl) (fun i a b=>by
    have:=h (i+1) (by simpa using a) (by simpa using b)
    simp only [List.getElem_cons_succ] at this
    exact this)
   simp only [List.mapM_cons,Sem.run_bind,h0,ih,Result.andThen_ok,Sem.run_pure]
def readRes (tmps:Array Value):ResultVar->Sem Value
 | .tmp t=>pure (tmps.getD t undef)
 | .cell a t=>do loadVar t (<- asAddr (tmps.getD a undef))
theorem resultsP_rep (h:Sim C D B T S M n st a w):∀ (rs:List ResultVar) (ps:List PV),resultsP C st rs=some ps ->
 ∃ vs:List Value,RepL S M ps vs∧rs.length=vs.length∧(∀ p ∈ ps,∀ e xs,p≠.osl e xs) ∧
  ∀ i (hi:i < rs.length) (hi':i < vs.length),(readRes a.tmps rs[i]).run C.P w=.ok vs[i] w
 | [],ps,he=>by
  simp only [resultsP,Option.some.injEq] at he
  subst he
  exact ⟨[],.nil S M,rfl,fun p hp=>by simp at hp,fun i hi=>by simp at hi⟩
 | r :: rs,ps,he=>by
  unfold resultsP at he
  split at he
  · rename_i p ps' hp hps
    injection he with he
    subst he
    obtain ⟨vs,h1,h2,h3,h4⟩:=resultsP_rep h rs ps' hps
    have key:∃ v,Rep S M p v∧(∀ e xs,p≠.osl e xs)∧(readRes a.tmps r).run C.P w=.ok v w:=by
     unfold resultP at hp
     split at hp
     · rename_i t
       injection hp with hp
       subst hp
       exact ⟨_,(h.opd (.tmp t)).shutV,fun e xs=>seal_not_osl _ e xs,rfl⟩
     · rename_i ad t
       obtain ⟨q,hq,rfl⟩:=Option.map_eq_some_iff.1 hp
       obtain ⟨v,hv,rv⟩:=loadP_run h hq
       refine ⟨v,rv.shutV,fun e xs=>seal_not_osl _ e xs,?_⟩
       have hx:=h.opd (.tmp ad)
       have:∃ x,a.tmps.getD ad undef=.pointer (some x):=by
        unfold loadP at hq
        split at hq
        · rename_i cs hcs;rw [hcs] at hx;obtain ⟨b,o,e,_⟩:=hx.ip_cells;exact ⟨_,e⟩
        · rename_i id off hcs;rw [hcs] at hx;obtain ⟨b,_,e⟩:=hx.bp_inv;exact ⟨_,e⟩
        · cases hq
       obtain ⟨x,hx⟩:=this
       have hx':a.eval (.tmp ad)=.pointer (some x):=hx
       rw [hx'] at hv
       simp only [readRes,hx,asAddr,Sem.run_bind,Sem.run_pure,Result.andThen_ok]
       simpa [Instr.loadAt,Instr.sureAddr] using hv
    obtain ⟨v,k1,k2,k3⟩:=key
    refine ⟨v :: vs,h1.cons' k1,by simp [h2],fun q hq=>?_,fun i hi hi'=>?_⟩
    · rcases List.mem_cons.1 hq with rfl | hq
      · exact k2
      · exact h3 q hq
    · cases i with
      | zero=>exact k3
      | succ i=>exact h4 i (by simpa using hi) (by simpa using hi')
  · cases he
theorem results_run {fn:Func} {rs:List ResultVar} (hrs:fn.results.toList=rs) {vs:List Value} (hl:rs.length=vs.length)
 (h:∀ i (hi:i < rs.length) (hi':i < vs.length),(readRes a.tmps rs[i]).run C.P w=.ok vs[i] w) :
 (results fn a.tmps).run C.P w=.ok (if hh:vs.length=1 then vs[0] else .tuple vs.toArray) w:=by
 have e:results fn a.tmps=(do
  let vs <- fn.results.mapM (readRes a.tmps)
  pure (if h:vs.size=1 then vs[0] else .tuple vs):Sem Value):=by
  unfold results
  congr 2
 rw [e,Array.mapM_eq_mapM_toList,hrs]
 have:=mapM_run (C:=C) (w:=w) (readRes a.tmps) rs vs hl h
 simp only [Sem.run_bind,Sem.run_map,this,Result.andThen_ok,Sem.run_pure,List.size_toArray,List.getElem_toArray]
theorem oneOr_rep {ps:List PV} {vs:List Value} (h:RepL S M ps vs) (hno:∀ p ∈ ps,∀ e xs,p≠.osl e xs):Rep S M (oneOr ps) (if hh:vs.length=1 then vs[0] else .tuple vs.toArray)∧∀ e xs,oneOr ps≠.osl e xs:=by
 match ps,vs,h with
 | [p],[v],h=>exact ⟨h.2 0 (by simp) (by simp),hno p (by simp)⟩
 | [],[],h=>exact ⟨.tup [] _ rfl (fun i h=>by simp at h),fun e xs=>by simp [oneOr]⟩
 | p :: q :: r,[],h=>exact absurd h.1 (by simp)
 | p :: q :: r,[v],h=>exact absurd h.1 (by simp)
 | [],v :: vs,h=>exact absurd h.1 (by simp)
 | [p],[],h=>exact absurd h.1 (by simp)
 | [p],v :: u :: vs,h=>exact absurd h.1 (by simp)
 | p :: q :: r,v :: u :: vs,h=>
  refine ⟨?_,fun e xs=>by simp [oneOr]⟩
  rw [dif_neg (by simp)]
  exact .tup _ _ (by simp [h.1]) (fun i a b=>by have:=h.2 i a (by simpa using b);simpa using this)
theorem replicate_getD (k i:Nat):(Array.replicate k undef).getD i undef=undef:=by
 simp [Array.getD]
theorem HSim.enter {bx:List PBox} (hh:HSim C B T S M bx w) {args:List PV} {vs:List Value} (hr:RepL S M args vs) (hno:∀ p ∈ args,∀ e xs,p≠.osl e xs) {k:Nat} (hk:args.length<=k) :
 Sim C [] B T S M k ⟨args,bx⟩ { tmps:=vs.toArray++Array.replicate (k - vs.toArray.size) undef,defers:=[] } w:=by
 have hl:=hr.1
 have get:∀ t,(vs.toArray++Array.replicate (k - vs.toArray.size) undef).getD t undef=if h:t < vs.length then vs[t] else undef:=by
  intro t
  rw [Array.getD_eq_getD_getElem?,Array.getElem?_append]
  split
  · rename_i ht
    simp at ht
    rw [dif_pos ht]
    simp [ht]
  · rename_i ht
    simp at ht
    rw [dif_neg (by omega),<- Array.getD_eq_getD_getElem?,replicate_getD]
 have env:∀ t,(∃ h:t < args.length,getT args t=args[t])∨(args.length<=t∧getT args t=und):=by
  intro t
  rcases Nat.lt_or_ge t args.length with h | h
  · exact .inl ⟨h,by simp [getT,h]⟩
  · exact .inr ⟨h,by simp [getT,h]⟩
 refine ⟨hh.holds,hh.glob,hh.gw,by simp;omega,rfl,fun t=>?_,hh.mlen,hh.boxes,hh.nodup,hh.mS,hh.mT,hh.hB,fun l e xs v hl=>?_,fun l l' e e' xs xs' v v' g hl hl' hv hv'=>?_⟩
 · rw [get]
   rcases env t with ⟨h,e⟩ | ⟨h,e⟩
   · rw [e,dif_pos (by omega)];exact hr.2 t h (by omega)
   · rw [e,dif_neg (by omega)];exact .und S M
 · cases l with
   | tmp t=>
    exfalso
    obtain ⟨h1,_⟩:=hl
    rcases env t with ⟨h,e'⟩ | ⟨h,e'⟩
    · simp only at h1
      rw [e'] at h1
      exact hno _ (List.getElem_mem h) e xs h1
    · simp only at h1
      rw [e'] at h1
      simp [und] at h1
   | box id off=>exact hh.own (.box id off) e xs v hl
 · have notmp:∀ t e xs v,¬ LocAt ⟨args,bx⟩ M { tmps:=vs.toArray++Array.replicate (k - vs.toArray.size) undef,defers:=[] } w (.tmp t) (.osl e xs) v:=by
    rintro t e xs v ⟨h1,_⟩
    rcases env t with ⟨h,e'⟩ | ⟨h,e'⟩
    · simp only at h1
      rw [e'] at h1
      exact hno _ (List.getElem_mem h) e xs h1
    · simp only at h1
      rw [e'] at h1
      simp [und] at h1
   cases l with
   | tmp t=>exact absurd hl (notmp t e xs v)
   | box id off=>
    cases l' with
    | tmp t=>exact absurd hl' (notmp t e' xs' v')
    | box id' off'=>exact hh.apart (.box id off) (.box id' off') e e' xs xs' v v' g hl hl' hv hv'
def okG (C:Cfg) (br:Bool) (n:Nat) (c:Code):Bool:=if br then codeOKB C n c else codeOK C n c
def CodeSound (C:Cfg) (br:Bool) (ev:Code->St->Option (Ex×St)):Prop:=
 ∀ (c:Code) (st:St) (ex:Ex) (st':St) (n:Nat),okG C br n c=true->ev c st=some (ex,st') ->
  ∀ (B:Nat) (T:Nat->Prop) (S:Store) (M:List Nat) (D:List Deferred) (a:Act) (w:World) (Q:Exit->Act->World->Prop),Sim C D B T S M n st a w->Ends C D B T S M n w ex st' Q->c.wp C.P Q a w
theorem finQ_sound {br:Bool} {ev:Code->St->Option (Ex×St)} (hev:CodeSound C br ev) {f:FuncId} {fn:Func} {c:Code} (hf:C.P.funcs[f]?=some fn) (hb:fn.body=some c) (hcode:okG C br fn.ntmps c=true) (hname:fn.name≠"runtime.NumGoroutine")
 {args:List PV} {bx:List PBox} {cr:CR} {bx':List PBox} (hlen:args.length<=fn.ntmps) (hcall:finQ C fn (ev c ⟨args,bx⟩)=some (cr,bx')) :
 HasBody C.P f∧((∀ p ∈ args,∀ t xs,p≠.osl t xs)->∀ (B:Nat) (T:Nat->Prop) (S:Store) (M:List Nat) (vs:List Value) (w:World),HSim C B T S M bx w->RepL S M args vs ->
  Calls C.P f vs.toArray w fun e w'=>∃ S' M',HSim C B T S' M' bx' w'∧Grows B T S w S' w'∧M <+: M'∧Outcome S' M' cr e):=by
 refine ⟨⟨fn,c,hf,by simpa using hname,hb⟩,fun hno B T S M vs w hh hrep=>?_⟩
 refine calls_of_wp hf hb ?_
 have hsim:=hh.enter hrep hno hlen
 have fin:∀ (st':St) (ps:List PV),resultsP C st' fn.results.toList=some ps->∀ S' M' a' w',Sim C [] B T S' M' fn.ntmps st' a' w'->Grows B T S w S' w'->M <+: M' ->
  a'.defers=[]∧∃ v,(results fn a'.tmps).run C.P w'=.ok v w'∧∃ S'' M'',HSim C B T S'' M'' st'.bx w'∧Grows B T S w S'' w'∧M <+: M''∧Outcome S'' M'' (.ret (oneOr ps)) (.returned v):=by
  intro st' ps hps S' M' a' w' hs hg hpre
  obtain ⟨us,h1,h2,h3,h4⟩:=resultsP_rep hs _ ps hps
  obtain ⟨h5,h6⟩:=oneOr_rep h1 h3
  exact ⟨hs.dfr,_,results_run rfl h2 h4,S',M',hs.heapOnly,hg,hpre,h6,_,rfl,h5⟩
 unfold finQ at hcall
 split at hcall
 · rename_i v st' he
   injection hcall with hcall
   injection hcall with e1 e2
   subst e1
   subst e2
   refine hev c ⟨args,bx⟩ _ st' fn.ntmps hcode he B T S M [] _ w _ hsim ?_
   intro S' M' a' w' x u e' _ hs hg hpre hru hx
   subst hx
   exact ⟨hs.dfr,S',M',hs.heapOnly,hg,hpre,u,rfl,hru⟩
 · cases hcall
 · rename_i ex st' hne1 hne2 he
   split at hcall
   · rename_i ps hps
     injection hcall with hcall
     injection hcall with e1 e2
     subst e1
     subst e2
     refine hev c ⟨args,bx⟩ _ st' fn.ntmps hcode he B T S M [] _ w _ hsim ?_
     cases ex with
     | normal=>exact fun S' M' a' w' hs hg hpre=>fin st' ps hps S' M' a' w' hs hg hpre
     | ret=>exact fun S' M' a' w' hs hg hpre=>fin st' ps hps S' M' a' w' hs hg hpre
     | exit id=>exact absurd rfl (hne2 id)
     | pan v=>exact absurd rfl (hne1 v)
   · cases hcall
 · cases hcall
theorem bodyQ_sound {ev evb:Code->St->Option (Ex×St)} (hp:PrimSound C) (hev:CodeSound C false ev) (hevb:CodeSound C true evb):CallSound C (bodyQ C ev evb):=by
 intro f args bx cr bx' hcall
 unfold bodyQ at hcall
 split at hcall
 · rename_i g hg
   split at hcall
   · rename_i hpure
     obtain ⟨r,hr,he⟩:=Option.map_eq_some_iff.1 hcall
     injection he with e1 e2
     subst e1
     subst e2
     obtain ⟨hb,hs⟩:=hp f g hg
     refine ⟨hb,fun hno B T S M vs w hh hrep=>?_⟩
     obtain ⟨hosl,hs⟩:=hs args r hr
     refine (hs S vs w hh.holds hh.glob (fun g cs hg=>(hh.gw g cs hg).2.2) (hrep.ofPure [] hpure)).mono fun e w' ⟨S',hk,v,he,hv⟩=>?_
     exact ⟨S',M,Sim.kept hh hk,hk.grows hh.hB,List.prefix_refl _,hosl,v,he,hv.mono (Store.le.refl _) (fun id b h=>by simp at h)⟩
   · cases hcall
 · split at hcall
   · cases hcall
   · rename_i fn hf
     split at hcall
     · cases hcall
     · rename_i c hb
       split at hcall
       · rename_i hok
         simp only [Bool.and_eq_true,decide_eq_true_eq,fnOK,bne_iff_ne,ne_eq] at hok
         obtain ⟨⟨hcode,hname⟩,hlen⟩:=hok
         exact finQ_sound hev hf hb (by simpa [okG] using hcode) hname hlen hcall
       · split at hcall
         · rename_i hok
           simp only [Bool.and_eq_true,decide_eq_true_eq,fnOKB,bne_iff_ne,ne_eq] at hok
           obtain ⟨⟨hcode,hname⟩,hlen⟩:=hok
           exact finQ_sound hevb hf hb (by simpa [okG] using hcode) hname hlen hcall
         · cases hcall
theorem one_cells {p:PV} (h:p.one=true):p.cells=[p]:=by cases p <;> simp_all [PV.one,PV.cells]
theorem flat_rowsOf {ag:Bool} {sz:Nat} {cs:List PV} (h:ag=true∨(sz=1∧cs.all PV.one=true)):∀ len,len * sz<=cs.length->flat (rowsOf ag sz len cs)=cs.take (len * sz)∧(∀ x ∈ rowsOf ag sz len cs,x.cells.length=sz)
 | 0,_=>by simp [rowsOf,flat]
 | len+1,hl=>by
  have hsz:(len+1) * sz=len * sz+sz:=by rw [Nat.add_mul,Nat.one_mul]
  obtain ⟨h1,h2⟩:=flat_rowsOf h len (by omega)
  have hs:rowsOf ag sz (len+1) cs=rowsOf ag sz len cs++[if ag then .agg ((cs.drop (len * sz)).take sz) else cs.getD len und]:=by
   unfold rowsOf
   rw [List.range_succ,List.map_append]
   rfl
  have hc:(if ag then PV.agg ((cs.drop (len * sz)).take sz) else cs.getD len und).cells=(cs.drop (len * sz)).take sz:=by
   rcases h with h | ⟨h3,h4⟩
   · rw [if_pos h];rfl
   · by_cases hag:ag=true
     · rw [if_pos hag];rfl
     · rw [if_neg hag]
       subst h3
       have hlt:len < cs.length:=by omega
       rw [Nat.mul_one,List.drop_eq_getElem_cons hlt,List.take_succ_cons,List.take_zero,List.getD_eq_getElem?_getD,List.getElem?_eq_getElem hlt]
       rw [List.all_eq_true] at h4
       exact one_cells (h4 _ (List.getElem_mem hlt))
  rw [hs,hsz]
  refine ⟨?_,fun x hx=>?_⟩
  · rw [flat_append,h1,List.take_add]
    congr 1
    unfold flat
    rw [List.flatMap_cons,List.flatMap_nil,List.append_nil,hc]
  · rcases List.mem_append.1 hx with hx | hx
    · exact h2 x hx
    · rw [List.mem_singleton] at hx
      rw [hx,hc,List.length_take,List.length_drop]
      omega
theorem thaw_not_osl {bx:List PBox} {nn:Nat} (k:Nat) {p:PV} (h:∀ t xs,p≠.osl t xs) (t:TypeId) (xs:List PV):thawP C bx nn k p≠.osl t xs:=by
 cases k with
 | zero=>exact h t xs
 | succ k=>
  unfold thawP
  cases p <;> simp at h ⊢
  rename_i id len
  split
  · simp
  · split
    · split
      · split <;> simp
      · simp
    · simp
theorem thaw_len {bx:List PBox} {nn:Nat} (k:Nat) (p:PV):(thawP C bx nn k p).cells.length=p.cells.length:=by
 cases k with
 | zero=>rfl
 | succ k=>
  cases p with
  | agg cs=>simp [thawP,PV.cells]
  | rs id len=>
   unfold thawP
   simp only
   split
   · rfl
   · split
     · split
       · split <;> rfl
       · rfl
     · rfl
  | _=>rfl
theorem thaw_cells {bx:List PBox} {nn:Nat} (k:Nat) (p:PV):∃ k',k'<=k∧(thawP C bx nn k p).cells=p.cells.map (thawP C bx nn k'):=by
 cases k with
 | zero=>exact ⟨0,Nat.le_refl _,by simp [thawP]⟩
 | succ k=>
  cases p with
  | agg cs=>exact ⟨k,Nat.le_succ k,rfl⟩
  | rs id len=>
   refine ⟨k+1,Nat.le_refl _,?_⟩
   have h:∀ q:PV,(∀ cs,q≠.agg cs)->q.cells=[q]:=fun q hq=>by cases q <;> simp_all [PV.cells]
   rw [show (PV.rs id len).cells=[.rs id len] from rfl,List.map_cons,List.map_nil]
   refine h _ (fun cs=>?_)
   unfold thawP
   simp only
   split
   · simp
   · split
     · split
       · split <;> simp
       · simp
     · simp
  | _=>exact ⟨k+1,Nat.le_refl _,rfl⟩
theorem thaw_flat {bx:List PBox} {nn:Nat} (k:Nat):∀ (xs:List PV) (i:Nat) (p:PV),(flat (xs.map (thawP C bx nn k)))[i]?=some p->∃ k' q,k'<=k∧(flat xs)[i]?=some q∧p=thawP C bx nn k' q
 | [],i,p,h=>by simp [flat] at h
 | x :: r,i,p,h=>by
  obtain ⟨k',hk,hc⟩:=thaw_cells (C:=C) (bx:=bx) (nn:=nn) k x
  have hl:=thaw_len (C:=C) (bx:=bx) (nn:=nn) k x
  have e1:flat ((x :: r).map (thawP C bx nn k))=(thawP C bx nn k x).cells++flat (r.map (thawP C bx nn k)):=by simp [flat]
  have e2:flat (x :: r)=x.cells++flat r:=by simp [flat]
  rw [e1] at h
  rw [e2]
  by_cases hi:i < x.cells.length
  · rw [List.getElem?_append_left (by omega),hc,List.getElem?_map] at h
    obtain ⟨q,hq,hp⟩:=Option.map_eq_some_iff.1 h
    exact ⟨k',q,hk,by rw [List.getElem?_append_left hi];exact hq,hp.symm⟩
  · rw [List.getElem?_append_right (by omega),hl] at h
    obtain ⟨k2,q,h1,h2,h3⟩:=thaw_flat k r _ p h
    exact ⟨k2,q,h1,by rw [List.getElem?_append_right (by omega)];exact h2,h3⟩
theorem thaw_flen {bx:List PBox} {nn:Nat} (k:Nat):∀ xs:List PV,(flat (xs.map (thawP C bx nn k))).length=(flat xs).length
 | []=>rfl
 | x :: r=>by
  have e1:flat ((x :: r).map (thawP C bx nn k))=(thawP C bx nn k x).cells++flat (r.map (thawP C bx nn k)):=by simp [flat]
  have e2:flat (x :: r)=x.cells++flat r:=by simp [flat]
  rw [e1,e2,List.length_append,List.length_append,thaw_len,thaw_flen k r]
theorem thaw_rep {S' S2:Store} {M' Mn:List Nat} {bx':List PBox} {w':World} {nn:Nat} (hh:HSim C B T S' M' bx' w') (hS:S'.le S2)
 (hS2:∀ id b cs,nn<=id->M'[id]?=some b->boxCells bx' id=some cs->∀ i,i < cs.length->S2 b i=w'.cell? ⟨b,i,none⟩) (back:∀ id b:Nat,id < nn->M'[id]?=some b->Mn[id]?=some b) :
 ∀ (k:Nat) (p:PV) (v:Value),Rep S' M' p v->(thawP C bx' nn k p).under nn=true->Rep S2 Mn (thawP C bx' nn k p) v:=by
 have base:∀ (p:PV) (v:Value),Rep S' M' p v->p.under nn=true->Rep S2 Mn p v:=fun p v h hp=>(h.mono hS (fun _ _ x=>x)).ofUnder nn Mn back hp
 intro k
 induction k using Nat.strongRecOn with
 | ind k ih0=>
 cases k with
 | zero=>exact base
 | succ k=>
  have ih:=ih0 k (Nat.lt_succ_self k)
  intro p v h hu
  cases p with
  | sl xs=>
   have hu:underL nn (xs.map (thawP C bx' nn k))=true:=hu
   show Rep S2 Mn (.sl (xs.map (thawP C bx' nn k))) v
   cases h with
   | slE a cap=>exact .slE a cap
   | sl xs b o cap f hc hz hs h1 hr=>
    obtain ⟨sz,hsz⟩:=hz
    have hfl:=thaw_flen (C:=C) (bx:=bx') (nn:=nn) k xs
    have key:=Rep.sl (S:=S2) (M:=Mn) (xs.map (thawP C bx' nn k)) b o cap f (by simpa using hc) ⟨sz,fun y hy=>by
     obtain ⟨x,hx,rfl⟩:=List.mem_map.1 hy
     rw [thaw_len];exact hsz x hx⟩ (fun i hi=>hS _ _ _ (hs i (by omega))) (fun i hi=>h1 i (by omega)) (fun i hi=>?_)
    · rw [List.length_map] at key;exact key
    · obtain ⟨k',q,h3,h4,h5⟩:=thaw_flat (C:=C) (bx:=bx') (nn:=nn) k xs i _ (List.getElem?_eq_getElem hi)
      have hu2:=underL_get (underL_flat hu) i hi
      rw [h5] at hu2 ⊢
      have hi2:i < (flat xs).length:=by omega
      rw [List.getElem?_eq_getElem hi2] at h4
      injection h4 with h4
      subst h4
      exact ih0 k' (by omega) _ _ (hr i hi2) hu2
  | agg cs=>
   obtain ⟨vs,rfl,l,h1,hr⟩:=h.agg_inv
   have hu:underL nn (cs.map (thawP C bx' nn k))=true:=hu
   refine .agg _ vs (by simpa using l) h1 (fun i hi hi'=>?_)
   have hi2:i < cs.length:=by simpa using hi
   have:=underL_get hu i hi
   rw [List.getElem_map] at this ⊢
   exact ih _ _ (hr i hi2 hi') this
  | tup cs=>
   obtain ⟨vs,rfl,l,hr⟩:=h.tup_inv
   have hu:underL nn (cs.map (thawP C bx' nn k))=true:=hu
   refine .tup _ vs (by simpa using l) (fun i hi hi'=>?_)
   have hi2:i < cs.length:=by simpa using hi
   have:=underL_get hu i hi
   rw [List.getElem_map] at this ⊢
   exact ih _ _ (hr i hi2 hi') this
  | rs id len=>
   unfold thawP at hu ⊢
   simp only at hu ⊢
   split
   · rename_i c;rw [if_pos c] at hu;exact base _ _ h hu
   · rename_i c
     rw [if_neg c] at hu
     split
     · rename_i e cs hb
       rw [hb] at hu
       simp only at hu
       split
       · rename_i sz hsz
         rw [hsz] at hu
         simp only at hu
         split
         · rename_i hcond
           rw [if_pos hcond] at hu
           obtain ⟨hle,hs0,hag⟩:=hcond
           obtain ⟨b,cap,hm,hcap,rfl⟩:=h.rs_inv
           obtain ⟨b',c,hm',hheap,hcl,hc1,hcr⟩:=BoxAt.getT hh hb
           rw [hm] at hm'
           injection hm' with hm'
           subst hm'
           have hbc:boxCells bx' id=some cs:=by unfold boxCells;rw [hb]
           generalize hds:cs.map (thawP C bx' nn k)=ds at *
           have hdl:ds.length=cs.length:=by rw [<- hds];simp
           obtain ⟨hf1,hf2⟩:=flat_rowsOf hag len (by omega)
           have hul:=underL_flat (n:=nn) (xs:=rowsOf (tAgg C e) sz len ds) hu
           have hlen:(rowsOf (tAgg C e) sz len ds).length=len:=by unfold rowsOf;simp
           have hfl:(flat (rowsOf (tAgg C e) sz len ds)).length=len * sz:=by rw [hf1,List.length_take];omega
           have hget:∀ i (h1:i < (flat (rowsOf (tAgg C e) sz len ds)).length) (h2:i < cs.length),(flat (rowsOf (tAgg C e) sz len ds))[i]=thawP C bx' nn k (cs[i]):=by
            intro i h1 h2
            have e1:(flat (rowsOf (tAgg C e) sz len ds))[i]?=ds[i]?:=by rw [hf1,List.getElem?_take_of_lt (by omega)]
            rw [List.getElem?_eq_getElem h1,List.getElem?_eq_getElem (by omega)] at e1
            injection e1 with e1
            rw [e1]
            simp [<- hds]
           have key:=Rep.sl (S:=S2) (M:=Mn) (rowsOf (tAgg C e) sz len ds) b 0 cap (fun i=>c.getD i undef) (by omega) ⟨sz,hf2⟩ (fun i hi=>?_) (fun i hi=>?_) (fun i hi=>?_)
           · rw [hlen] at key;exact key
           · rw [Nat.zero_add,hS2 id b cs (by omega) hm hbc i (by omega),cell_of_heap hheap,Array.getElem?_eq_getElem (by omega)]
             simp [Array.getD,show i < c.size by omega]
           · have:=hc1 i (by omega) (by omega)
             simpa [Array.getD,show i < c.size by omega] using this
           · have h3:i < cs.length:=by omega
             have h4:=underL_get hul i hi
             rw [hget i hi h3] at h4 ⊢
             have:=ih _ _ (hcr i h3 (by omega)) h4
             simpa [Array.getD,show i < c.size by omega] using this
         · rename_i hcond
           rw [if_neg hcond] at hu
           exact base _ _ h hu
       · rename_i hsz
         exact base _ _ h (by rw [hsz] at hu;exact hu)
     · rename_i hb
       refine base _ _ h ?_
       split at hu
       · rename_i e cs hb2;exact absurd hb2 (hb e cs)
       · exact hu
  | _=>exact base _ _ h hu
theorem endQ_sound {call:CallT} (hcall:CallSound C call):CallSound C (fun f args bx=>endQ C bx.length (call f args bx)):=by
 intro f args bx cr bx' he
 simp only at he
 cases hx:call f args bx with
 | none=>rw [hx] at he;cases he
 | some x=>
  obtain ⟨cr0,bx0⟩:=x
  obtain ⟨hb,hs⟩:=hcall f args bx cr0 bx0 hx
  rw [hx] at he
  cases cr0 with
  | pan v=>
   injection he with he
   injection he with e1 e2
   subst e1
   subst e2
   exact ⟨hb,hs⟩
  | ret r=>
   unfold endQ at he
   simp only at he
   split at he
   rotate_left
   · injection he with he
     injection he with e1 e2
     subst e1
     subst e2
     exact ⟨hb,hs⟩
   rename_i hc
   injection he with he
   injection he with e1 e2
   subst e1
   subst e2
   simp only [Bool.and_eq_true] at hc
   obtain ⟨hu,hbu⟩:=hc
   refine ⟨hb,fun hno B T S M vs w hh hrep=>(hs hno B T S M vs w hh hrep).mono fun e w' ⟨S',M',hh',hg,hp,hosl,v,he,hv⟩=>?_⟩
   have hml:M.length=bx.length:=hh.mlen
   rw [<- hml] at hu hbu ⊢
   have ht:=HSim.trunc hh' hp hbu
   obtain ⟨R,hR⟩:=hp
   subst hR
   have hnd:=hh'.nodup
   have hdis:∀ b,b ∈ M->b ∉ R:=fun b h1 h2=>(List.nodup_append.1 hnd).2.2 b h1 b h2 rfl
   let S2:Store:=fun b o=>if b ∈ R then w'.cell? ⟨b,o,none⟩ else S' b o
   have hS2R:∀ b o,b ∈ R->S2 b o=w'.cell? ⟨b,o,none⟩:=fun b o hb=>if_pos hb
   have hS2N:∀ b o,b ∉ R->S2 b o=S' b o:=fun b o hb=>if_neg hb
   have hS:S'.le S2:=by
    intro b o u hu'
    by_cases hbR:b ∈ R
    · rw [hh'.mS b (List.mem_append_right _ hbR) o] at hu';cases hu'
    · rw [hS2N b o hbR];exact hu'
   have back:∀ id b:Nat,id < M.length->(M++R)[id]?=some b->M[id]?=some b:=fun id b hid hb=>by rw [List.getElem?_append_left hid] at hb;exact hb
   have hcells:∀ id cs,boxCells (bx0.take M.length) id=some cs->boxCells bx0 id=some cs∧id < M.length:=by
    intro id cs hc
    have hlt:=boxCells_lt hc
    simp only [List.length_take] at hlt
    have hlt:=Nat.lt_min.1 hlt
    refine ⟨?_,hlt.1⟩
    unfold boxCells at hc ⊢
    rw [List.getElem?_take_of_lt hlt.1] at hc
    exact hc
   have loc:∀ l e xs v,LocAt ⟨[],bx0.take M.length⟩ M ⟨#[],[]⟩ w' l (.osl e xs) v->LocAt ⟨[],bx0⟩ (M++R) ⟨#[],[]⟩ w' l (.osl e xs) v:=by
    intro l e xs v hl
    cases l with
    | tmp t=>exact hl
    | box id off=>
     obtain ⟨cs,b,h1,h2,h3,h4⟩:=hl
     exact ⟨cs,b,(hcells id cs h1).1,h2,prefix_get (List.prefix_append _ _) id b h3,h4⟩
   have hsim:HSim C B T S2 M (bx0.take M.length) w':=by
    refine ⟨fun b o v hv=>?_,fun g cs hg=>(ht.glob g cs hg).mono hS (fun _ _ x=>x),ht.gw,rfl,rfl,fun t=>by rw [getT_nil];exact .und S2 M,ht.mlen,fun id x hx=>?_,ht.nodup,fun b hb o=>?_,ht.mT,ht.hB,fun l e xs v hl=>?_,ht.apart⟩
    · by_cases hbR:b ∈ R
      · rw [hS2R b o hbR] at hv;exact hv
      · rw [hS2N b o hbR] at hv;exact hh'.holds b o v hv
    · obtain ⟨b,h1,h2⟩:=ht.boxes id x hx
      exact ⟨b,h1,h2.kept hS rfl⟩
    · rw [hS2N b o (hdis b hb)]
      exact ht.mS b hb o
    · obtain ⟨h1,h2⟩:=ht.own l e xs v hl
      refine ⟨h1.kept fun g hg'=>⟨rfl,fun o=>?_⟩,h2⟩
      obtain ⟨⟨_,_,_,_,_,h3⟩,_⟩:=hh'.own _ _ _ _ (loc l e xs v hl)
      exact hS2N g o (fun hr=>(h3 g hg').1 (List.mem_append_right _ hr))
   refine ⟨S2,M,hsim,⟨hg.os,hg.tape,hg.output,hg.size,hg.block,hg.store.trans hS,fun k hk hnT o=>?_⟩,List.prefix_refl _,fun t xs=>thaw_not_osl 4 hosl t xs,v,he,?_⟩
   · rw [hS2N k o (fun hr=>by
      rcases hh'.mT k (List.mem_append_right _ hr) with h1 | h1
      · omega
      · exact hnT h1)]
     exact hg.same k hk hnT o
   · exact thaw_rep hh' hS (fun id b cs hid hb _ i _=>hS2R b i (by
      rw [List.getElem?_append_right hid] at hb
      exact List.mem_of_getElem? hb)) back 4 r v hv hu
def CatSound (C:Cfg):Prop:=
 ∀ (f:FuncId) (k:Cat),C.cat f=some k->∀ (ev:Code->St->Option (Ex×St)),CodeSound C false ev->∀ (args:List PV) (bx:List PBox) (cr:CR) (bx':List PBox),runCat k ev args bx=some (cr,bx') ->
  HasBody C.P f∧((∀ p ∈ args,∀ t xs,p≠.osl t xs)->∀ (B:Nat) (T:Nat->Prop) (S:Store) (M:List Nat) (vs:List Value) (w:World),HSim C B T S M bx w->RepL S M args vs ->
   Calls C.P f vs.toArray w fun e w'=>∃ S' M',HSim C B T S' M' bx' w'∧Grows B T S w S' w'∧M <+: M'∧Outcome S' M' cr e)
theorem catNone {C:Cfg} (h:∀ f,C.cat f=none):CatSound C:=fun f k hk=>by rw [h f] at hk;cases hk
theorem bodyP_sound {ev evb:Code->St->Option (Ex×St)} (hh:HPrimSound C) (hp:PrimSound C) (hcat:CatSound C) (hev:CodeSound C false ev) (hevb:CodeSound C true evb):CallSound C (bodyP C ev evb):=by
 intro f args bx cr bx' hcall
 unfold bodyP at hcall
 split at hcall
 · rename_i g hg
   obtain ⟨⟨p,v,b⟩,h1,h2⟩:=Option.map_eq_some_iff.1 hcall
   injection h2 with e1 e2
   subst e1
   subst e2
   exact hh f g hg args bx p v b h1
 · split at hcall
   · rename_i k hk
     exact hcat f k hk ev hev args bx cr bx' hcall
   · split at hcall
     · exact endQ_sound (bodyQ_sound hp hev hevb) f args bx cr bx' hcall
     · exact bodyQ_sound hp hev hevb f args bx cr bx' hcall
theorem okG_region {br:Bool} {id:Nat} {ops:Array Oper} {draw:Bool} (h:okG C br n (.region id ops draw)=true):dstOK n ops=true∧(draw=true->if br then drawOK C ops=true∨edgesOK ops=true else drawOK C ops=true):=by
 unfold okG at h
 cases br <;> simp [codeOK,codeOKB] at h ⊢
 · refine ⟨h.1,fun hd=>?_⟩
   rcases h.2 with h2 | h2
   · rw [hd] at h2;cases h2
   · exact h2
 · refine ⟨h.1,fun hd=>?_⟩
   rcases h.2 with (h2 | h2) | h2
   · rw [hd] at h2;cases h2
   · exact .inl h2
   · exact .inr h2
theorem okG_seq {br:Bool} {x y:Code} (h:okG C br n (.seq x y)=true):okG C br n x=true∧okG C br n y=true:=by
 unfold okG at *
 cases br <;> simp [codeOK,codeOKB] at h⊢<;> exact h
theorem okG_cond {br:Bool} {c:Operand} {x y:Code} (h:okG C br n (.cond c x y)=true):okG C br n x=true∧okG C br n y=true:=by
 unfold okG at *
 cases br <;> simp [codeOK,codeOKB] at h⊢<;> exact h
theorem okG_block {br:Bool} {i:Nat} {x:Code} (h:okG C br n (.block i x)=true):okG C br n x=true:=by
 unfold okG at *
 cases br <;> simp [codeOK,codeOKB] at h⊢<;> exact h
theorem okG_loop {br:Bool} {x:Code} (h:okG C br n (.loop x)=true):okG C br n x=true:=by
 unfold okG at *
 cases br <;> simp [codeOK,codeOKB] at h⊢<;> exact h
theorem evFB_sound (hh:HPrimSound C) (hp:PrimSound C) (hcat:CatSound C) (hdraw:DrawSound C) (hall:DrawAllSound C):∀ k br,CodeSound C br (evFB C k br)
 | 0,br=>fun c st ex st' n _ he=>by simp [evFB] at he
 | k+1,br=>by
  have ih:=evFB_sound hh hp hcat hdraw hall k br
  have ihc:=bodyP_sound hh hp hcat (evFB_sound hh hp hcat hdraw hall k false) (evFB_sound hh hp hcat hdraw hall k true)
  intro c st ex st' n hok he B T S M D a w Q h hq
  cases c with
  | skip=>
   simp only [evFB,Option.some.injEq,Prod.mk.injEq] at he
   obtain ⟨rfl,rfl⟩:=he
   exact wp_skip (hq S M a w h (Grows.refl _ _ _ _) (List.prefix_refl _))
  | label l=>
   simp only [evFB,Option.some.injEq,Prod.mk.injEq] at he
   obtain ⟨rfl,rfl⟩:=he
   exact wp_label (hq S M a w h (Grows.refl _ _ _ _) (List.prefix_refl _))
  | region id ops draw=>
   simp only [evFB] at he
   obtain ⟨hok1,hok2⟩:=okG_region hok
   cases draw with
   | false=>
    simp only [Bool.and_false,Bool.false_eq_true,if_false] at he
    exact wp_region_list (evOps_sound ihc false ops ops.toList [] st S M a w (dstOK_mem hok1) h (fun p hp=>by simp at hp) he hq)
   | true=>
    have hok2:=hok2 rfl
    cases br with
    | false=>
     simp only [Bool.false_and,Bool.false_eq_true,if_false] at he hok2
     exact hdraw _ ihc id ops n ex st st' B T S M D a w Q hok1 hok2 he h hq
    | true=>
     simp only [Bool.and_self,if_true] at he hok2
     unfold drawM at he
     split at he
     · rename_i hdo
       exact hdraw _ ihc id ops n ex st st' B T S M D a w Q hok1 hdo he h hq
     · rename_i hdo
       exact hall _ ihc id ops n ex st st' B T S M D a w Q hok1 (hok2.resolve_left hdo) he h hq
  | seq x y=>
   simp only [evFB] at he
   have hok:=okG_seq hok
   refine wp_seq ?_
   split at he
   · rename_i st1 h1
     refine ih x st _ st1 n hok.1 h1 B T S M D a w _ h ?_
     exact fun S' M' a' w' hs hg hpre=>ih y st1 ex st' n hok.2 he B T S' M' D a' w' Q hs (hq.of_grows hg hpre)
   · rename_i hne
     refine ih x st ex st' n hok.1 he B T S M D a w _ h ?_
     cases ex with
     | normal=>exact absurd he (hne st')
     | exit id=>exact hq
     | ret=>exact hq
     | pan v=>exact hq
  | cond c x y=>
   simp only [evFB] at he
   have hok:=okG_cond hok
   split at he
   · rename_i t ht
     have hx:=h.opd c
     rw [ht] at hx
     refine wp_cond hx.bool_inv ?_
     refine ih _ st ex st' n ?_ he B T S M D a w Q h hq
     cases t
     · exact hok.2
     · exact hok.1
   · cases he
  | block id b=>
   simp only [evFB] at he
   have hok:=okG_block hok
   refine wp_block ?_
   split at he
   · rename_i id' st1 h1
     refine ih b st _ st1 n hok h1 B T S M D a w _ h ?_
     intro S' M' a' w' hs hg hpre
     show (if id'=id then Q .normal a' w' else Q (.exit id') a' w')
     split at he
     · rename_i hid
       injection he with he
       injection he with e1 e2
       subst e1
       subst e2
       rw [if_pos hid]
       exact hq S' M' a' w' hs hg hpre
     · rename_i hid
       injection he with he
       injection he with e1 e2
       subst e1
       subst e2
       rw [if_neg hid]
       exact hq S' M' a' w' hs hg hpre
   · rename_i hne
     refine ih b st ex st' n hok he B T S M D a w _ h ?_
     cases ex with
     | normal=>exact hq
     | exit id=>exact absurd he (hne id st')
     | ret=>exact hq
     | pan v=>exact hq
  | loop b=>
   have hok':=okG_loop hok
   refine wp_loop_counted (fun j a1 w1=>j<=k+1∧∃ st1 S1 M1,evFB C j br (.loop b) st1=some (ex,st')∧Sim C D B T S1 M1 n st1 a1 w1∧Grows B T S w S1 w1∧M <+: M1)
    (fun a1 w1 ⟨_,st1,S1,M1,h1,_⟩=>by simp [evFB] at h1) (fun j a1 w1 ⟨hj,st1,S1,M1,he1,hs1,hg1,hp1⟩=>?_) (j:=k+1) ⟨Nat.le_refl _,st,S,M,he,h,Grows.refl _ _ _ _,List.prefix_refl _⟩
   have ihj:=evFB_sound hh hp hcat hdraw hall j br
   simp only [evFB] at he1
   split at he1
   · rename_i st2 h2
     refine ihj b st1 _ st2 n hok' h2 B T S1 M1 D a1 w1 _ hs1 ?_
     exact fun S' M' a' w' hs hg hpre=>⟨by omega,st2,S',M',he1,hs,hg1.trans hg,hp1.trans hpre⟩
   · rename_i hne
     refine ihj b st1 ex st' n hok' he1 B T S1 M1 D a1 w1 _ hs1 ?_
     have hq1:=hq.of_grows hg1 hp1
     cases ex with
     | normal=>exact absurd he1 (hne st')
     | exit id=>exact hq1
     | ret=>exact hq1
     | pan v=>exact hq1
  | exit id=>
   simp only [evFB,Option.some.injEq,Prod.mk.injEq] at he
   obtain ⟨rfl,rfl⟩:=he
   exact wp_exit (hq S M a w h (Grows.refl _ _ _ _) (List.prefix_refl _))
  | ret=>
   simp only [evFB,Option.some.injEq,Prod.mk.injEq] at he
   obtain ⟨rfl,rfl⟩:=he
   exact wp_ret (hq S M a w h (Grows.refl _ _ _ _) (List.prefix_refl _))
  | rangeFunc f ps as b=>simp [evFB] at he
  | scope b=>simp [evFB] at he
  | goto l=>simp [evFB] at he
  | refuse s=>simp [evFB] at he
end
end Go.HH
