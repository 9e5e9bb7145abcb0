/-
  What the law needs, packed: Code.
-/
import Derived.Test.YthjcaihemgllaaaGreatDoorM19
namespace Go.HH
open Go Go.RowKit
def PrimSound (C:Cfg):Prop:=
 ∀ (f:FuncId) (g:List PV->Option PV),C.prim f=some g->HasBody C.P f∧∀ (args:List PV) (r:PV),g args=some r->(∀ t xs,r≠.osl t xs) ∧
  ∀ (S:Store) (vs:List Value) (w:World),(∀ b o v,S b o=some v->w.cell? ⟨b,o,none⟩=some v) ->
   (∀ g cs,C.glob g=some cs->Rep S [] (.ip cs) (.pointer (some ⟨g,0,none⟩)))->(∀ g cs,C.glob g=some cs->∃ c e f,w.heap[g]?=some (.cells c e f)∧c.size=cs.length)->RepL S [] args vs ->
   Calls C.P f vs.toArray w fun e w'=>∃ S',Kept S w S' w'∧∃ v,e=.returned v∧Rep S' [] r v
def HPrimSound (C:Cfg):Prop:=
 ∀ (f:FuncId) (g:List PV->List PBox->Option (Bool×PV×List PBox)),C.hprim f=some g->∀ (args:List PV) (bx:List PBox) (p:Bool) (v:PV) (bx':List PBox),g args bx=some (p,v,bx') ->
  HasBody C.P f∧((∀ p ∈ args,∀ t xs,p≠.osl t xs) ->
   ∀ (B:Nat) (T:Nat->Prop) (S:Store) (M:List Nat) (vs:List Value) (w:World),HSim C B T S M bx w->RepL S M args vs ->
    Calls C.P f vs.toArray w fun e w'=>∃ S' M',HSim C B T S' M' bx' w'∧Grows B T S w S' w'∧M <+: M'∧Outcome S' M' (if p then .pan v else .ret v) e)
def DrawSound (C:Cfg):Prop:=
 ∀ (call:CallT),CallSound C call->∀ (id:Nat) (ops:Array Oper) (n:Nat) (ex:Ex) (st st':St) (B:Nat) (T:Nat->Prop) (S:Store) (M:List Nat) (D:List Deferred) (a:Act) (w:World) (Q:Exit->Act->World->Prop),
  dstOK n ops=true->drawOK C ops=true->evOps C call true ops ops.toList [] st=some (ex,st')->Sim C D B T S M n st a w->Ends C D B T S M n w ex st' Q->(Code.region id ops true).wp C.P Q a w
def DrawAllSound (C:Cfg):Prop:=
 ∀ (call:CallT),CallSound C call->∀ (id:Nat) (ops:Array Oper) (n:Nat) (ex:Ex) (st st':St) (B:Nat) (T:Nat->Prop) (S:Store) (M:List Nat) (D:List Deferred) (a:Act) (w:World) (Q:Exit->Act->World->Prop),
  dstOK n ops=true->edgesOK ops=true->drawAll C call ops st=some (ex,st')->Sim C D B T S M n st a w->Ends C D B T S M n w ex st' Q->(Code.region id ops true).wp C.P Q a w
theorem wp_loop_counted {P:Program} {Q:Exit->Act->World->Prop} {c:Code} (I:Nat->Act->World->Prop) (h0:∀ a w,¬ I 0 a w)
 (round:∀ j a w,I (j+1) a w->c.wp P (Exit.then (fun a' w'=>I j a' w') Q) a w) {j:Nat} {a:Act} {w:World} (h:I j a w):(Code.loop c).wp P Q a w:=by
 intro b k cs
 have key:∀ j a w,I j a w->∃ e a' w',Q e a' w'∧Arrives P (lone (b.at a (.code c :: .inLoop c :: k)) cs w) b k cs e a' w':=by
  intro j
  induction j with
  | zero=>intro a w h;exact absurd h (h0 a w)
  | succ j ih=>
   intro a w hI
   obtain ⟨e,a₁,w₁,hq,harr⟩:=round j a w hI b (.inLoop c :: k) cs
   cases e with
   | normal=>
    obtain ⟨e₂,a₂,w₂,hq₂,harr₂⟩:=ih a₁ w₁ hq
    exact ⟨e₂,a₂,w₂,hq₂,.of_steps (Steps.trans harr (.one step_inLoop)) harr₂⟩
   | exit id=>exact ⟨_,a₁,w₁,hq,.pass (x:=.inLoop c) rfl (fun _ _=>.inl (by simp)) harr⟩
   | goto l=>exact ⟨_,a₁,w₁,hq,.pass (x:=.inLoop c) rfl (fun _ _=>.inl (by simp)) harr⟩
   | ret=>exact ⟨_,a₁,w₁,hq,.pass (x:=.inLoop c) rfl (fun _ _=>.inl (by simp)) harr⟩
   | panic ch=>exact ⟨_,a₁,w₁,hq,.pass (x:=.inLoop c) rfl (fun _ _=>.inl (by simp)) harr⟩
   | outgrown=>exact ⟨_,a₁,w₁,hq,.pass (x:=.inLoop c) rfl (fun _ _=>.inl (by simp)) harr⟩
 obtain ⟨e,a',w',hq,harr⟩:=key j a w h
 exact ⟨e,a',w',hq,.of_steps (.one step_loop) harr⟩
section
variable {C:Cfg} {D:List Deferred} {B:Nat} {T:Nat->Prop} {S:Store} {M:List Nat} {n:Nat} {st:St} {a:Act} {w:World}
theorem dstOK_mem {ops:Array Oper} (h:dstOK n ops=true):∀ o ∈ ops.toList,∀ k,o.dst=some k->k < n:=by
 intro o ho k hk
 unfold dstOK at h
 rw [List.all_eq_true] at h
 have:=h o ho
 rw [hk] at this
 simpa using this
theorem mapM_run {α:Type} (g:α->Sem Value):∀ (l:List α) (vs:List Value),l.length=vs.length->(∀ i (h:i < l.length) (h':i < vs.length),(g l[i]).run C.P w=.ok vs[i] w)->(l.mapM g).run C.P w=.ok vs w
 | [],vs,hl,_=>by
  have:vs=[]:=List.eq_nil_of_length_eq_zero hl.symm
  subst this
  simp
 | x :: r,vs,hl,h=>by
  cases vs with
  | nil=>simp at hl
  | cons v vs=>
   have h0:=h 0 (by simp) (by simp)
   simp only [List.getElem_cons_zero] at h0
   have ih:=mapM_run g r vs (by simpa using hl) (fun i a b=>by
    have:=h (i+1) (by simpa using a) (by simpa using b)
    simp only [List.getElem_cons_succ] at this
    exact this)
   simp only [List.mapM_cons,Sem.run_bind,h0,ih,Result.andThen_ok,Sem.run_pure]
def readRes (tmps:Array Value):ResultVar->Sem Value
 | .tmp t=>pure (tmps.getD t undef)
 | .cell a t=>do loadVar t (<- asAddr (tmps.getD a undef))
theorem resultsP_rep (h:Sim C D B T S M n st a w):∀ (rs:List ResultVar) (ps:List PV),resultsP C st rs=some ps ->
 ∃ vs:List Value,RepL S M ps vs∧rs.length=vs.length∧(∀ p ∈ ps,∀ e xs,p≠.osl e xs) ∧
  ∀ i (hi:i < rs.length) (hi':i < vs.length),(readRes a.tmps rs[i]).run C.P w=.ok vs[i] w
 | [],ps,he=>by
  simp only [resultsP,Option.some.injEq] at he
  subst he
  exact ⟨[],.nil S M,rfl,fun p hp=>by simp at hp,fun i hi=>by simp at hi⟩
 | r :: rs,ps,he=>by
  unfold resultsP at he
  split at he
  · rename_i p ps' hp hps
    injection he with he
    subst he
    obtain ⟨vs,h1,h2,h3,h4⟩:=resultsP_rep h rs ps' hps
    have key:∃ v,Rep S M p v∧(∀ e xs,p≠.osl e xs)∧(readRes a.tmps r).run C.P w=.ok v w:=by
     unfold resultP at hp
     split at hp
     · rename_i t
       injection hp with hp
       subst hp
       exact ⟨_,(h.opd (.tmp t)).shutV,fun e xs=>seal_not_osl _ e xs,rfl⟩
     · rename_i ad t
       obtain ⟨q,hq,rfl⟩:=Option.map_eq_some_iff.1 hp
       obtain ⟨v,hv,rv⟩:=loadP_run h hq
       refine ⟨v,rv.shutV,fun e xs=>seal_not_osl _ e xs,?_⟩
       have hx:=h.opd (.tmp ad)
       have:∃ x,a.tmps.getD ad undef=.pointer (some x):=by
        unfold loadP at hq
        split at hq
        · rename_i cs hcs;rw [hcs] at hx;obtain ⟨b,o,e,_⟩:=hx.ip_cells;exact ⟨_,e⟩
        · rename_i id off hcs;rw [hcs] at hx;obtain ⟨b,_,e⟩:=hx.bp_inv;exact ⟨_,e⟩
        · cases hq
       obtain ⟨x,hx⟩:=this
       have hx':a.eval (.tmp ad)=.pointer (some x):=hx
       rw [hx'] at hv
       simp only [readRes,hx,asAddr,Sem.run_bind,Sem.run_pure,Result.andThen_ok]
       simpa [Instr.loadAt,Instr.sureAddr] using hv
    obtain ⟨v,k1,k2,k3⟩:=key
    refine ⟨v :: vs,h1.cons' k1,by simp [h2],fun q hq=>?_,fun i hi hi'=>?_⟩
    · rcases List.mem_cons.1 hq with rfl | hq
      · exact k2
      · exact h3 q hq
    · cases i with
      | zero=>exact k3
      | succ i=>exact h4 i (by simpa using hi) (by simpa using hi')
  · cases he
theorem results_run {fn:Func} {rs:List ResultVar} (hrs:fn.results.toList=rs) {vs:List Value} (hl:rs.length=vs.length)
 (h:∀ i (hi:i < rs.length) (hi':i < vs.length),(readRes a.tmps rs[i]).run C.P w=.ok vs[i] w) :
 (results fn a.tmps).run C.P w=.ok (if hh:vs.length=1 then vs[0] else .tuple vs.toArray) w:=by
 have e:results fn a.tmps=(do
  let vs <- fn.results.mapM (readRes a.tmps)
  pure (if h:vs.size=1 then vs[0] else .tuple vs):Sem Value):=by
  unfold results
  congr 2
 rw [e,Array.mapM_eq_mapM_toList,hrs]
 have:=mapM_run (C:=C) (w:=w) (readRes a.tmps) rs vs hl h
 simp only [Sem.run_bind,Sem.run_map,this,Result.andThen_ok,Sem.run_pure,List.size_toArray,List.getElem_toArray]
theorem oneOr_rep {ps:List PV} {vs:List Value} (h:RepL S M ps vs) (hno:∀ p ∈ ps,∀ e xs,p≠.osl e xs):Rep S M (oneOr ps) (if hh:vs.length=1 then vs[0] else .tuple vs.toArray)∧∀ e xs,oneOr ps≠.osl e xs:=by
 match ps,vs,h with
 | [p],[v],h=>exact ⟨h.2 0 (by simp) (by simp),hno p (by simp)⟩
 | [],[],h=>exact ⟨.tup [] _ rfl (fun i h=>by simp at h),fun e xs=>by simp [oneOr]⟩
 | p :: q :: r,[],h=>exact absurd h.1 (by simp)
 | p :: q :: r,[v],h=>exact absurd h.1 (by simp)
 | [],v :: vs,h=>exact absurd h.1 (by simp)
 | [p],[],h=>exact absurd h.1 (by simp)
 | [p],v :: u :: vs,h=>exact absurd h.1 (by simp)
 | p :: q :: r,v :: u :: vs,h=>
  refine ⟨?_,fun e xs=>by simp [oneOr]⟩
  rw [dif_neg (by simp)]
  exact .tup _ _ (by simp [h.1]) (fun i a b=>by have:=h.2 i a (by simpa using b);simpa using this)
theorem replicate_getD (k i:Nat):(Array.replicate k undef).getD i undef=undef:=by
 simp [Array.getD]
theorem HSim.enter {bx:List PBox} (hh:HSim C B T S M bx w) {args:List PV} {vs:List Value} (hr:RepL S M args vs) (hno:∀ p ∈ args,∀ e xs,p≠.osl e xs) {k:Nat} (hk:args.length<=k) :
 Sim C [] B T S M k ⟨args,bx⟩ { tmps:=vs.toArray++Array.replicate (k - vs.toArray.size) undef,defers:=[] } w:=by
 have hl:=hr.1
 have get:∀ t,(vs.toArray++Array.replicate (k - vs.toArray.size) undef).getD t undef=if h:t < vs.length then vs[t] else undef:=by
  intro t
  rw [Array.getD_eq_getD_getElem?,Array.getElem?_append]
  split
  · rename_i ht
    simp at ht
    rw [dif_pos ht]
    simp [ht]
  · rename_i ht
    simp at ht
    rw [dif_neg (by omega),<- Array.getD_eq_getD_getElem?,replicate_getD]
 have env:∀ t,(∃ h:t < args.length,getT args t=args[t])∨(args.length<=t∧getT args t=und):=by
  intro t
  rcases Nat.lt_or_ge t args.length with h | h
  · exact .inl ⟨h,by simp [getT,h]⟩
  · exact .inr ⟨h,by simp [getT,h]⟩
 refine ⟨hh.holds,hh.glob,hh.gw,by simp;omega,rfl,fun t=>?_,hh.mlen,hh.boxes,hh.nodup,hh.mS,hh.mT,hh.hB,fun l e xs v hl=>?_,fun l l' e e' xs xs' v v' g hl hl' hv hv'=>?_⟩
 · rw [get]
   rcases env t with ⟨h,e⟩ | ⟨h,e⟩
   · rw [e,dif_pos (by omega)];exact hr.2 t h (by omega)
   · rw [e,dif_neg (by omega)];exact .und S M
 · cases l with
   | tmp t=>
    exfalso
    obtain ⟨h1,_⟩:=hl
    rcases env t with ⟨h,e'⟩ | ⟨h,e'⟩
    · simp only at h1
      rw [e'] at h1
      exact hno _ (List.getElem_mem h) e xs h1
    · simp only at h1
      rw [e'] at h1
      simp [und] at h1
   | box id off=>exact hh.own (.box id off) e xs v hl
 · have notmp:∀ t e xs v,¬ LocAt ⟨args,bx⟩ M { tmps:=vs.toArray++Array.replicate (k - vs.toArray.size) undef,defers:=[] } w (.tmp t) (.osl e xs) v:=by
    rintro t e xs v ⟨h1,_⟩
    rcases env t with ⟨h,e'⟩ | ⟨h,e'⟩
    · simp only at h1
      rw [e'] at h1
      exact hno _ (List.getElem_mem h) e xs h1
    · simp only at h1
      rw [e'] at h1
      simp [und] at h1
   cases l with
   | tmp t=>exact absurd hl (notmp t e xs v)
   | box id off=>
    cases l' with
    | tmp t=>exact absurd hl' (notmp t e' xs' v')
    | box id' off'=>exact hh.apart (.box id off) (.box id' off') e e' xs xs' v v' g hl hl' hv hv'
def okG (C:Cfg) (br:Bool) (n:Nat) (c:Code):Bool:=if br then codeOKB C n c else codeOK C n c
def CodeSound (C:Cfg) (br:Bool) (ev:Code->St->Option (Ex×St)):Prop:=
 ∀ (c:Code) (st:St) (ex:Ex) (st':St) (n:Nat),okG C br n c=true->ev c st=some (ex,st') ->
  ∀ (B:Nat) (T:Nat->Prop) (S:Store) (M:List Nat) (D:List Deferred) (a:Act) (w:World) (Q:Exit->Act->World->Prop),Sim C D B T S M n st a w->Ends C D B T S M n w ex st' Q->c.wp C.P Q a w
theorem finQ_sound {br:Bool} {ev:Code->St->Option (Ex×St)} (hev:CodeSound C br ev) {f:FuncId} {fn:Func} {c:Code} (hf:C.P.funcs[f]?=some fn) (hb:fn.body=some c) (hcode:okG C br fn.ntmps c=true) (hname:fn.name≠"runtime.NumGoroutine")
 {args:List PV} {bx:List PBox} {cr:CR} {bx':List PBox} (hlen:args.length<=fn.ntmps) (hcall:finQ C fn (ev c ⟨args,bx⟩)=some (cr,bx')) :
 HasBody C.P f∧((∀ p ∈ args,∀ t xs,p≠.osl t xs)->∀ (B:Nat) (T:Nat->Prop) (S:Store) (M:List Nat) (vs:List Value) (w:World),HSim C B T S M bx w->RepL S M args vs ->
  Calls C.P f vs.toArray w fun e w'=>∃ S' M',HSim C B T S' M' bx' w'∧Grows B T S w S' w'∧M <+: M'∧Outcome S' M' cr e):=by
 refine ⟨⟨fn,c,hf,by simpa using hname,hb⟩,fun hno B T S M vs w hh hrep=>?_⟩
 refine calls_of_wp hf hb ?_
 have hsim:=hh.enter hrep hno hlen
 have fin:∀ (st':St) (ps:List PV),resultsP C st' fn.results.toList=some ps->∀ S' M' a' w',Sim C [] B T S' M' fn.ntmps st' a' w'->Grows B T S w S' w'->M <+: M' ->
  a'.defers=[]∧∃ v,(results fn a'.tmps).run C.P w'=.ok v w'∧∃ S'' M'',HSim C B T S'' M'' st'.bx w'∧Grows B T S w S'' w'∧M <+: M''∧Outcome S'' M'' (.ret (oneOr ps)) (.returned v):=by
  intro st' ps hps S' M' a' w' hs hg hpre
  obtain ⟨us,h1,h2,h3,h4⟩:=resultsP_rep hs _ ps hps
  obtain ⟨h5,h6⟩:=oneOr_rep h1 h3
  exact ⟨hs.dfr,_,results_run rfl h2 h4,S',M',hs.heapOnly,hg,hpre,h6,_,rfl,h5⟩
 unfold finQ at hcall
 split at hcall
 · rename_i v st' he
   injection hcall with hcall
   injection hcall with e1 e2
   subst e1
   subst e2
   refine hev c ⟨args,bx⟩ _ st' fn.ntmps hcode he B T S M [] _ w _ hsim ?_
   intro S' M' a' w' x u e' _ hs hg hpre hru hx
   subst hx
   exact ⟨hs.dfr,S',M',hs.heapOnly,hg,hpre,u,rfl,hru⟩
 · cases hcall
 · rename_i ex st' hne1 hne2 he
   split at hcall
   · rename_i ps hps
     injection hcall with hcall
     injection hcall with e1 e2
     subst e1
     subst e2
     refine hev c ⟨args,bx⟩ _ st' fn.ntmps hcode he B T S M [] _ w _ hsim ?_
     cases ex with
     | normal=>exact fun S' M' a' w' hs hg hpre=>fin st' ps hps S' M' a' w' hs hg hpre
     | ret=>exact fun S' M' a' w' hs hg hpre=>fin st' ps hps S' M' a' w' hs hg hpre
     | exit id=>exact absurd rfl (hne2 id)
     | pan v=>exact absurd rfl (hne1 v)
   · cases hcall
 · cases hcall
theorem bodyQ_sound {ev evb:Code->St->Option (Ex×St)} (hp:PrimSound C) (hev:CodeSound C false ev) (hevb:CodeSound C true evb):CallSound C (bodyQ C ev evb):=by
 intro f args bx cr bx' hcall
 unfold bodyQ at hcall
 split at hcall
 · rename_i g hg
   split at hcall
   · rename_i hpure
     obtain ⟨r,hr,he⟩:=Option.map_eq_some_iff.1 hcall
     injection he with e1 e2
     subst e1
     subst e2
     obtain ⟨hb,hs⟩:=hp f g hg
     refine ⟨hb,fun hno B T S M vs w hh hrep=>?_⟩
     obtain ⟨hosl,hs⟩:=hs args r hr
     refine (hs S vs w hh.holds hh.glob (fun g cs hg=>(hh.gw g cs hg).2.2) (hrep.ofPure [] hpure)).mono fun e w' ⟨S',hk,v,he,hv⟩=>?_
     exact ⟨S',M,Sim.kept hh hk,hk.grows hh.hB,List.prefix_refl _,hosl,v,he,hv.mono (Store.le.refl _) (fun id b h=>by simp at h)⟩
   · cases hcall
 · split at hcall
   · cases hcall
   · rename_i fn hf
     split at hcall
     · cases hcall
     · rename_i c hb
       split at hcall
       · rename_i hok
         simp only [Bool.and_eq_true,decide_eq_true_eq,fnOK,bne_iff_ne,ne_eq] at hok
         obtain ⟨⟨hcode,hname⟩,hlen⟩:=hok
         exact finQ_sound hev hf hb (by simpa [okG] using hcode) hname hlen hcall
       · split at hcall
         · rename_i hok
           simp only [Bool.and_eq_true,decide_eq_true_eq,fnOKB,bne_iff_ne,ne_eq] at hok
           obtain ⟨⟨hcode,hname⟩,hlen⟩:=hok
           exact finQ_sound hevb hf hb (by simpa [okG] using hcode) hname hlen hcall
         · cases hcall
def CatSound (C:Cfg):Prop:=
 ∀ (f:FuncId) (k:Cat),C.cat f=some k->∀ (ev:Code->St->Option (Ex×St)),CodeSound C false ev->∀ (args:List PV) (bx:List PBox) (cr:CR) (bx':List PBox),runCat k ev args bx=some (cr,bx') ->
  HasBody C.P f∧((∀ p ∈ args,∀ t xs,p≠.osl t xs)->∀ (B:Nat) (T:Nat->Prop) (S:Store) (M:List Nat) (vs:List Value) (w:World),HSim C B T S M bx w->RepL S M args vs ->
   Calls C.P f vs.toArray w fun e w'=>∃ S' M',HSim C B T S' M' bx' w'∧Grows B T S w S' w'∧M <+: M'∧Outcome S' M' cr e)
theorem catNone {C:Cfg} (h:∀ f,C.cat f=none):CatSound C:=fun f k hk=>by rw [h f] at hk;cases hk
theorem bodyP_sound {ev evb:Code->St->Option (Ex×St)} (hh:HPrimSound C) (hp:PrimSound C) (hcat:CatSound C) (hev:CodeSound C false ev) (hevb:CodeSound C true evb):CallSound C (bodyP C ev evb):=by
 intro f args bx cr bx' hcall
 unfold bodyP at hcall
 split at hcall
 · rename_i g hg
   obtain ⟨⟨p,v,b⟩,h1,h2⟩:=Option.map_eq_some_iff.1 hcall
   injection h2 with e1 e2
   subst e1
   subst e2
   exact hh f g hg args bx p v b h1
 · split at hcall
   · rename_i k hk
     exact hcat f k hk ev hev args bx cr bx' hcall
   · exact bodyQ_sound hp hev hevb f args bx cr bx' hcall
theorem okG_region {br:Bool} {id:Nat} {ops:Array Oper} {draw:Bool} (h:okG C br n (.region id ops draw)=true):dstOK n ops=true∧(draw=true->if br then drawOK C ops=true∨edgesOK ops=true else drawOK C ops=true):=by
 unfold okG at h
 cases br <;> simp [codeOK,codeOKB] at h ⊢
 · refine ⟨h.1,fun hd=>?_⟩
   rcases h.2 with h2 | h2
   · rw [hd] at h2;cases h2
   · exact h2
 · refine ⟨h.1,fun hd=>?_⟩
   rcases h.2 with (h2 | h2) | h2
   · rw [hd] at h2;cases h2
   · exact .inl h2
   · exact .inr h2
theorem okG_seq {br:Bool} {x y:Code} (h:okG C br n (.seq x y)=true):okG C br n x=true∧okG C br n y=true:=by
 unfold okG at *
 cases br <;> simp [codeOK,codeOKB] at h⊢<;> exact h
theorem okG_cond {br:Bool} {c:Operand} {x y:Code} (h:okG C br n (.cond c x y)=true):okG C br n x=true∧okG C br n y=true:=by
 unfold okG at *
 cases br <;> simp [codeOK,codeOKB] at h⊢<;> exact h
theorem okG_block {br:Bool} {i:Nat} {x:Code} (h:okG C br n (.block i x)=true):okG C br n x=true:=by
 unfold okG at *
 cases br <;> simp [codeOK,codeOKB] at h⊢<;> exact h
theorem okG_loop {br:Bool} {x:Code} (h:okG C br n (.loop x)=true):okG C br n x=true:=by
 unfold okG at *
 cases br <;> simp [codeOK,codeOKB] at h⊢<;> exact h
theorem evFB_sound (hh:HPrimSound C) (hp:PrimSound C) (hcat:CatSound C) (hdraw:DrawSound C) (hall:DrawAllSound C):∀ k br,CodeSound C br (evFB C k br)
 | 0,br=>fun c st ex st' n _ he=>by simp [evFB] at he
 | k+1,br=>by
  have ih:=evFB_sound hh hp hcat hdraw hall k br
  have ihc:=bodyP_sound hh hp hcat (evFB_sound hh hp hcat hdraw hall k false) (evFB_sound hh hp hcat hdraw hall k true)
  intro c st ex st' n hok he B T S M D a w Q h hq
  cases c with
  | skip=>
   simp only [evFB,Option.some.injEq,Prod.mk.injEq] at he
   obtain ⟨rfl,rfl⟩:=he
   exact wp_skip (hq S M a w h (Grows.refl _ _ _ _) (List.prefix_refl _))
  | label l=>
   simp only [evFB,Option.some.injEq,Prod.mk.injEq] at he
   obtain ⟨rfl,rfl⟩:=he
   exact wp_label (hq S M a w h (Grows.refl _ _ _ _) (List.prefix_refl _))
  | region id ops draw=>
   simp only [evFB] at he
   obtain ⟨hok1,hok2⟩:=okG_region hok
   cases draw with
   | false=>
    simp only [Bool.and_false,Bool.false_eq_true,if_false] at he
    exact wp_region_list (evOps_sound ihc false ops ops.toList [] st S M a w (dstOK_mem hok1) h (fun p hp=>by simp at hp) he hq)
   | true=>
    have hok2:=hok2 rfl
    cases br with
    | false=>
     simp only [Bool.false_and,Bool.false_eq_true,if_false] at he hok2
     exact hdraw _ ihc id ops n ex st st' B T S M D a w Q hok1 hok2 he h hq
    | true=>
     simp only [Bool.and_self,if_true] at he hok2
     unfold drawM at he
     split at he
     · rename_i hdo
       exact hdraw _ ihc id ops n ex st st' B T S M D a w Q hok1 hdo he h hq
     · rename_i hdo
       exact hall _ ihc id ops n ex st st' B T S M D a w Q hok1 (hok2.resolve_left hdo) he h hq
  | seq x y=>
   simp only [evFB] at he
   have hok:=okG_seq hok
   refine wp_seq ?_
   split at he
   · rename_i st1 h1
     refine ih x st _ st1 n hok.1 h1 B T S M D a w _ h ?_
     exact fun S' M' a' w' hs hg hpre=>ih y st1 ex st' n hok.2 he B T S' M' D a' w' Q hs (hq.of_grows hg hpre)
   · rename_i hne
     refine ih x st ex st' n hok.1 he B T S M D a w _ h ?_
     cases ex with
     | normal=>exact absurd he (hne st')
     | exit id=>exact hq
     | ret=>exact hq
     | pan v=>exact hq
  | cond c x y=>
   simp only [evFB] at he
   have hok:=okG_cond hok
   split at he
   · rename_i t ht
     have hx:=h.opd c
     rw [ht] at hx
     refine wp_cond hx.bool_inv ?_
     refine ih _ st ex st' n ?_ he B T S M D a w Q h hq
     cases t
     · exact hok.2
     · exact hok.1
   · cases he
  | block id b=>
   simp only [evFB] at he
   have hok:=okG_block hok
   refine wp_block ?_
   split at he
   · rename_i id' st1 h1
     refine ih b st _ st1 n hok h1 B T S M D a w _ h ?_
     intro S' M' a' w' hs hg hpre
     show (if id'=id then Q .normal a' w' else Q (.exit id') a' w')
     split at he
     · rename_i hid
       injection he with he
       injection he with e1 e2
       subst e1
       subst e2
       rw [if_pos hid]
       exact hq S' M' a' w' hs hg hpre
     · rename_i hid
       injection he with he
       injection he with e1 e2
       subst e1
       subst e2
       rw [if_neg hid]
       exact hq S' M' a' w' hs hg hpre
   · rename_i hne
     refine ih b st ex st' n hok he B T S M D a w _ h ?_
     cases ex with
     | normal=>exact hq
     | exit id=>exact absurd he (hne id st')
     | ret=>exact hq
     | pan v=>exact hq
  | loop b=>
   have hok':=okG_loop hok
   refine wp_loop_counted (fun j a1 w1=>j<=k+1∧∃ st1 S1 M1,evFB C j br (.loop b) st1=some (ex,st')∧Sim C D B T S1 M1 n st1 a1 w1∧Grows B T S w S1 w1∧M <+: M1)
    (fun a1 w1 ⟨_,st1,S1,M1,h1,_⟩=>by simp [evFB] at h1) (fun j a1 w1 ⟨hj,st1,S1,M1,he1,hs1,hg1,hp1⟩=>?_) (j:=k+1) ⟨Nat.le_refl _,st,S,M,he,h,Grows.refl _ _ _ _,List.prefix_refl _⟩
   have ihj:=evFB_sound hh hp hcat hdraw hall j br
   simp only [evFB] at he1
   split at he1
   · rename_i st2 h2
     refine ihj b st1 _ st2 n hok' h2 B T S1 M1 D a1 w1 _ hs1 ?_
     exact fun S' M' a' w' hs hg hpre=>⟨by omega,st2,S',M',he1,hs,hg1.trans hg,hp1.trans hpre⟩
   · rename_i hne
     refine ihj b st1 ex st' n hok' he1 B T S1 M1 D a1 w1 _ hs1 ?_
     have hq1:=hq.of_grows hg1 hp1
     cases ex with
     | normal=>exact absurd he1 (hne st')
     | exit id=>exact hq1
     | ret=>exact hq1
     | pan v=>exact hq1
  | exit id=>
   simp only [evFB,Option.some.injEq,Prod.mk.injEq] at he
   obtain ⟨rfl,rfl⟩:=he
   exact wp_exit (hq S M a w h (Grows.refl _ _ _ _) (List.prefix_refl _))
  | ret=>
   simp only [evFB,Option.some.injEq,Prod.mk.injEq] at he
   obtain ⟨rfl,rfl⟩:=he
   exact wp_ret (hq S M a w h (Grows.refl _ _ _ _) (List.prefix_refl _))
  | rangeFunc f ps as b=>simp [evFB] at he
  | scope b=>simp [evFB] at he
  | goto l=>simp [evFB] at he
  | refuse s=>simp [evFB] at he
end
end Go.HH
