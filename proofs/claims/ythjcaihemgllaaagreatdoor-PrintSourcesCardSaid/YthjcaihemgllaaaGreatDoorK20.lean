/-
  What the law needs, packed: Code.
-/
import Derived.Test.YthjcaihemgllaaaGreatDoorK19
open List renaming prefix_refl->Aau,getElem_mem->Ab2
open Option renaming map_eq_some_iff->Aav
open Array renaming replicate->Aaw,getD_eq_getD_getElem?->Aay
open Go.Result renaming andThen_ok->Aax
open Go.Sem renaming run_pure->Aaz,run_bind->Ab0
open Bool renaming false_eq_true->Ab1,and_eq_true->Ab3
open Go.Code renaming region->Ab4
namespace Go.HH
open Go Go.RowKit
def GX (C:Cfg):Prop:=
 ∀ (f:FuncId) (g:List PV->Option PV),C.prim f=some g->Ff C.P f/\∀ (args:List PV) (r:PV),g args=some r->(∀ t xs,r≠.osl t xs) /\
  ∀ (S:AJ) (vs:List Value) (w:World),(∀ b o v,S b o=some v->w.cell? ⟨b,o,none⟩=some v) ->
   (∀ g cs,C.glob g=some cs->Rep S [] (.ip cs) (.pointer (some ⟨g,0,none⟩)))->(∀ g cs,C.glob g=some cs->∃ c e f,w.heap[g]?=some (.cells c e f)/\c.size=cs.length)->Ce S [] args vs ->
   Calls C.P f vs.toArray w fun e w'=>∃ S',Kept S w S' w'/\∃ v,e=.returned v/\Rep S' [] r v
def Hb (C:Cfg):Prop:=
 ∀ (f:FuncId) (g:List PV->List PBox->Option (Bool×PV×List PBox)),C.hprim f=some g->∀ (args:List PV) (bx:List PBox) (p:Bool) (v:PV) (bx':List PBox),g args bx=some (p,v,bx') ->
  Ff C.P f/\((∀ p ∈ args,∀ t xs,p≠.osl t xs) ->
   ∀ (B:Nat) (T:Nat->Prop) (S:AJ) (M:List Nat) (vs:List Value) (w:World),CO C B T S M bx w->Ce S M args vs ->
    Calls C.P f vs.toArray w fun e w'=>∃ S' M',CO C B T S' M' bx' w'/\Grows B T S w S' w'/\M <+: M'/\Outcome S' M' (if p then .pan v else .ret v) e)
def U5 (C:Cfg):Prop:=
 ∀ (call:Cn),DY C call->∀ (id:Nat) (ops:Array Oper) (n:Nat) (ex:Ex) (st st':St) (B:Nat) (T:Nat->Prop) (S:AJ) (M:List Nat) (D:List Deferred) (a:Act) (w:World) (Q:Exit->Act->World->Prop),
  dstOK n ops=true->CM C ops=true->evOps C call true ops ops.toList [] st=some (ex,st')->Sim C D B T S M n st a w->Ends C D B T S M n w ex st' Q->(Ab4 id ops true).wp C.P Q a w
def MH (C:Cfg):Prop:=
 ∀ (call:Cn),DY C call->∀ (id:Nat) (ops:Array Oper) (n:Nat) (ex:Ex) (st st':St) (B:Nat) (T:Nat->Prop) (S:AJ) (M:List Nat) (D:List Deferred) (a:Act) (w:World) (Q:Exit->Act->World->Prop),
  dstOK n ops=true->edgesOK ops=true->drawAll C call ops st=some (ex,st')->Sim C D B T S M n st a w->Ends C D B T S M n w ex st' Q->(Ab4 id ops true).wp C.P Q a w
theorem PC {P:Program} {Q:Exit->Act->World->Prop} {c:Code} (I:Nat->Act->World->Prop) (h0:∀ a w,¬ I 0 a w)
 (round:∀ j a w,I (j+1) a w->c.wp P (Exit.then (fun a' w'=>I j a' w') Q) a w) {j:Nat} {a:Act} {w:World} (h:I j a w):(Code.loop c).wp P Q a w:=by
 intro b k cs
 have key:∀ j a w,I j a w->∃ e a' w',Q e a' w'/\Arrives P (lone (b.at a (.code c :: .inLoop c :: k)) cs w) b k cs e a' w':=by
  intro j
  induction j with
  | zero=>intro a w h;exact absurd h (h0 a w)
  | succ j ih=>
   intro a w hI;obtain ⟨e,a₁,w₁,hq,ZL⟩:=round j a w hI b (.inLoop c :: k) cs;cases e with
   | normal=>
    obtain ⟨e₂,a₂,w₂,hq₂,harr₂⟩:=ih a₁ w₁ hq;exact ⟨e₂,a₂,w₂,hq₂,.of_steps (Steps.trans ZL (.one step_inLoop)) harr₂⟩
   | exit id=>exact ⟨_,a₁,w₁,hq,.pass (x:=.inLoop c) rfl (fun _ _=>.inl (by simp)) ZL⟩
   | goto l=>exact ⟨_,a₁,w₁,hq,.pass (x:=.inLoop c) rfl (fun _ _=>.inl (by simp)) ZL⟩
   | ret=>exact ⟨_,a₁,w₁,hq,.pass (x:=.inLoop c) rfl (fun _ _=>.inl (by simp)) ZL⟩
   | panic ch=>exact ⟨_,a₁,w₁,hq,.pass (x:=.inLoop c) rfl (fun _ _=>.inl (by simp)) ZL⟩
   | outgrown=>exact ⟨_,a₁,w₁,hq,.pass (x:=.inLoop c) rfl (fun _ _=>.inl (by simp)) ZL⟩
 obtain ⟨e,a',w',hq,ZL⟩:=key j a w h;exact ⟨e,a',w',hq,.of_steps (.one step_loop) ZL⟩
section
variable {C:Cfg} {D:List Deferred} {B:Nat} {T:Nat->Prop} {S:AJ} {M:List Nat} {n:Nat} {st:St} {a:Act} {w:World}
theorem Ej {ops:Array Oper} (h:dstOK n ops=true):∀ o ∈ ops.toList,∀ k,o.dst=some k->k < n:=by
 intro o ho k hk;unfold dstOK at h;rw [List.all_eq_true] at h;have:=h o ho;rw [hk] at this;simpa using this
theorem X6 {α:Type} (g:α->Sem Value):∀ (l:List α) (vs:List Value),l.length=vs.length->(∀ i (h:i < l.length) (h':i < vs.length),(g l[i]).run C.P w=.ok vs[i] w)->(l.mapM g).run C.P w=.ok vs w
 | [],vs,hl,_=>by
  have:vs=[]:=List.eq_nil_of_length_eq_zero hl.symm;subst this;simp
 | x :: r,vs,hl,h=>by
  cases vs with
  | nil=>simp at hl
  | cons v vs=>
   have h0:=h 0 (by simp) (by simp);simp only [List.getElem_cons_zero] at h0
   have ih:=X6 g r vs (by simpa using hl) (fun i a b=>by
    have:=h (i+1) (by simpa using a) (by simpa using b);simp only [List.getElem_cons_succ] at this;exact this)
   simp only [List.mapM_cons,Ab0,h0,ih,Aax,Aaz]
def Lg (tmps:Array Value):ResultVar->Sem Value
 | .tmp t=>pure (tmps.getD t undef)
 | .cell a t=>do loadVar t (<- asAddr (tmps.getD a undef))
theorem Jb (h:Sim C D B T S M n st a w):∀ (rs:List ResultVar) (ps:List PV),Cp C st rs=some ps ->
 ∃ vs:List Value,Ce S M ps vs/\rs.length=vs.length/\(∀ p ∈ ps,∀ e xs,p≠.osl e xs) /\
  ∀ i (hi:i < rs.length) (Dm:i < vs.length),(Lg a.tmps rs[i]).run C.P w=.ok vs[i] w
 | [],ps,he=>by
  simp only [Cp,Option.some.injEq] at he;subst he;exact ⟨[],.nil S M,rfl,fun p hp=>by simp at hp,fun i hi=>by simp at hi⟩
 | r :: rs,ps,he=>by
  unfold Cp at he;split at he
  · rename_i p ps' hp rU
    injection he with he
    subst he;obtain ⟨vs,h1,h2,h3,h4⟩:=Jb h rs ps' rU
    have key:∃ v,Rep S M p v/\(∀ e xs,p≠.osl e xs)/\(Lg a.tmps r).run C.P w=.ok v w:=by
     unfold HD at hp;split at hp
     · rename_i t
       injection hp with hp
       subst hp;exact ⟨_,(h.opd (.tmp t)).shutV,fun e xs=>Fh _ e xs,rfl⟩
     · rename_i ad t
       obtain ⟨q,hq,rfl⟩:=Aav.1 hp;obtain ⟨v,hv,rv⟩:=U0 h hq;refine ⟨v,rv.shutV,fun e xs=>Fh _ e xs,?_⟩;have hx:=h.opd (.tmp ad)
       have:∃ x,a.tmps.getD ad undef=.pointer (some x):=by
        unfold G2 at hq;split at hq
        · rename_i cs JQ;rw [JQ] at hx;obtain ⟨b,o,e,_⟩:=hx.ip_cells;exact ⟨_,e⟩
        · rename_i id off JQ;rw [JQ] at hx;obtain ⟨b,_,e⟩:=hx.bp_inv;exact ⟨_,e⟩
        · cases hq
       obtain ⟨x,hx⟩:=this;have Gz:a.eval (.tmp ad)=.pointer (some x):=hx;rw [Gz] at hv;simp only [Lg,hx,asAddr,Ab0,Aaz,Aax];simpa [Instr.loadAt,Instr.sureAddr] using hv
    obtain ⟨v,k1,k2,k3⟩:=key;refine ⟨v :: vs,h1.cons' k1,by simp [h2],fun q hq=>?_,fun i hi Dm=>?_⟩
    · rcases List.mem_cons.1 hq with rfl | hq
      · exact k2
      · exact h3 q hq
    · cases i with
      | zero=>exact k3
      | succ i=>exact h4 i (by simpa using hi) (by simpa using Dm)
  · cases he
theorem HK {fn:Func} {rs:List ResultVar} (wa:fn.results.toList=rs) {vs:List Value} (hl:rs.length=vs.length)
 (h:∀ i (hi:i < rs.length) (Dm:i < vs.length),(Lg a.tmps rs[i]).run C.P w=.ok vs[i] w) :
 (results fn a.tmps).run C.P w=.ok (if hh:vs.length=1 then vs[0] else .tuple vs.toArray) w:=by
 have e:results fn a.tmps=(do
  let vs <- fn.results.mapM (Lg a.tmps)
  pure (if h:vs.size=1 then vs[0] else .tuple vs):Sem Value):=by
  unfold results
  congr 2
 rw [e,Array.mapM_eq_mapM_toList,wa];have:=X6 (C:=C) (w:=w) (Lg a.tmps) rs vs hl h;simp only [Ab0,Sem.run_map,this,Aax,Aaz,List.size_toArray,List.getElem_toArray]
theorem U6 {ps:List PV} {vs:List Value} (h:Ce S M ps vs) (G0:∀ p ∈ ps,∀ e xs,p≠.osl e xs):Rep S M (Iq ps) (if hh:vs.length=1 then vs[0] else .tuple vs.toArray)/\∀ e xs,Iq ps≠.osl e xs:=by
 match ps,vs,h with
 | [p],[v],h=>exact ⟨h.2 0 (by simp) (by simp),G0 p (by simp)⟩
 | [],[],h=>exact ⟨.tup [] _ rfl (fun i h=>by simp at h),fun e xs=>by simp [Iq]⟩
 | p :: q :: r,[],h=>exact absurd h.1 (by simp)
 | p :: q :: r,[v],h=>exact absurd h.1 (by simp)
 | [],v :: vs,h=>exact absurd h.1 (by simp)
 | [p],[],h=>exact absurd h.1 (by simp)
 | [p],v :: u :: vs,h=>exact absurd h.1 (by simp)
 | p :: q :: r,v :: u :: vs,h=>
  refine ⟨?_,fun e xs=>by simp [Iq]⟩;rw [dif_neg (by simp)];exact .tup _ _ (by simp [h.1]) (fun i a b=>by have:=h.2 i a (by simpa using b);simpa using this)
theorem Ra (k i:Nat):(Aaw k undef).getD i undef=undef:=by
 simp [Array.getD]
theorem CO.enter {bx:List PBox} (hh:CO C B T S M bx w) {args:List PV} {vs:List Value} (hr:Ce S M args vs) (G0:∀ p ∈ args,∀ e xs,p≠.osl e xs) {k:Nat} (hk:args.length<=k) :
 Sim C [] B T S M k ⟨args,bx⟩ { tmps:=vs.toArray++Aaw (k - vs.toArray.size) undef,defers:=[] } w:=by
 have hl:=hr.1
 have get:∀ t,(vs.toArray++Aaw (k - vs.toArray.size) undef).getD t undef=if h:t < vs.length then vs[t] else undef:=by
  intro t;rw [Aay,Array.getElem?_append];split
  · rename_i ht
    simp at ht;rw [dif_pos ht];simp [ht]
  · rename_i ht
    simp at ht;rw [dif_neg (by omega),<- Aay,Ra]
 have env:∀ t,(∃ h:t < args.length,getT args t=args[t])\/(args.length<=t/\getT args t=und):=by
  intro t;rcases Nat.lt_or_ge t args.length with h | h
  · exact .inl ⟨h,by simp [getT,h]⟩
  · exact .inr ⟨h,by simp [getT,h]⟩
 refine ⟨hh.holds,hh.glob,hh.gw,by simp;omega,rfl,fun t=>?_,hh.mlen,hh.boxes,hh.nodup,hh.mS,hh.mT,hh.hB,fun l e xs v hl=>?_,fun l l' e e' xs xs' v v' g hl D3 hv Pz=>?_⟩
 · rw [get]
   rcases env t with ⟨h,e⟩ | ⟨h,e⟩
   · rw [e,dif_pos (by omega)];exact hr.2 t h (by omega)
   · rw [e,dif_neg (by omega)];exact .und S M
 · cases l with
   | tmp t=>
    exfalso;obtain ⟨h1,_⟩:=hl;rcases env t with ⟨h,e'⟩ | ⟨h,e'⟩
    · simp only at h1
      rw [e'] at h1;exact G0 _ (Ab2 h) e xs h1
    · simp only at h1
      rw [e'] at h1;simp [und] at h1
   | box id off=>exact hh.own (.box id off) e xs v hl
 · have notmp:∀ t e xs v,¬ LocAt ⟨args,bx⟩ M { tmps:=vs.toArray++Aaw (k - vs.toArray.size) undef,defers:=[] } w (.tmp t) (.osl e xs) v:=by
    rintro t e xs v ⟨h1,_⟩
    rcases env t with ⟨h,e'⟩ | ⟨h,e'⟩
    · simp only at h1
      rw [e'] at h1;exact G0 _ (Ab2 h) e xs h1
    · simp only at h1
      rw [e'] at h1;simp [und] at h1
   cases l with
   | tmp t=>exact absurd hl (notmp t e xs v)
   | box id off=>
    cases l' with
    | tmp t=>exact absurd D3 (notmp t e' xs' v')
    | box id' off'=>exact hh.apart (.box id off) (.box id' off') e e' xs xs' v v' g hl D3 hv Pz
def Tu (C:Cfg) (br:Bool) (n:Nat) (c:Code):Bool:=if br then Eh C n c else Fa C n c
def DZ (C:Cfg) (br:Bool) (ev:Code->St->Option (Ex×St)):Prop:=
 ∀ (c:Code) (st:St) (ex:Ex) (st':St) (n:Nat),Tu C br n c=true->ev c st=some (ex,st') ->
  ∀ (B:Nat) (T:Nat->Prop) (S:AJ) (M:List Nat) (D:List Deferred) (a:Act) (w:World) (Q:Exit->Act->World->Prop),Sim C D B T S M n st a w->Ends C D B T S M n w ex st' Q->c.wp C.P Q a w
theorem Rb {br:Bool} {ev:Code->St->Option (Ex×St)} (Ip:DZ C br ev) {f:FuncId} {fn:Func} {c:Code} (hf:C.P.funcs[f]?=some fn) (hb:fn.body=some c) (GJ:Tu C br fn.ntmps c=true) (Gt:fn.name≠"runtime.NumGoroutine")
 {args:List PV} {bx:List PBox} {cr:CR} {bx':List PBox} (hlen:args.length<=fn.ntmps) (Bo:nU C fn (ev c ⟨args,bx⟩)=some (cr,bx')) :
 Ff C.P f/\((∀ p ∈ args,∀ t xs,p≠.osl t xs)->∀ (B:Nat) (T:Nat->Prop) (S:AJ) (M:List Nat) (vs:List Value) (w:World),CO C B T S M bx w->Ce S M args vs ->
  Calls C.P f vs.toArray w fun e w'=>∃ S' M',CO C B T S' M' bx' w'/\Grows B T S w S' w'/\M <+: M'/\Outcome S' M' cr e):=by
 refine ⟨⟨fn,c,hf,by simpa using Gt,hb⟩,fun G0 B T S M vs w hh DJ=>?_⟩;refine calls_of_wp hf hb ?_;have Il:=hh.enter DJ G0 hlen
 have fin:∀ (st':St) (ps:List PV),Cp C st' fn.results.toList=some ps->∀ S' M' a' w',Sim C [] B T S' M' fn.ntmps st' a' w'->Grows B T S w S' w'->M <+: M' ->
  a'.defers=[]/\∃ v,(results fn a'.tmps).run C.P w'=.ok v w'/\∃ S'' M'',CO C B T S'' M'' st'.bx w'/\Grows B T S w S'' w'/\M <+: M''/\Outcome S'' M'' (.ret (Iq ps)) (.returned v):=by
  intro st' ps rU S' M' a' w' hs hg Du;obtain ⟨us,h1,h2,h3,h4⟩:=Jb hs _ ps rU;obtain ⟨h5,h6⟩:=U6 h1 h3;exact ⟨hs.dfr,_,HK rfl h2 h4,S',M',hs.heapOnly,hg,Du,h6,_,rfl,h5⟩
 unfold nU at Bo;split at Bo
 · rename_i v st' he
   injection Bo with Bo
   injection Bo with e1 e2
   subst e1;subst e2;refine Ip c ⟨args,bx⟩ _ st' fn.ntmps GJ he B T S M [] _ w _ Il ?_;intro S' M' a' w' x u e' _ hs hg Du ZM hx;subst hx;exact ⟨hs.dfr,S',M',hs.heapOnly,hg,Du,u,rfl,ZM⟩
 · cases Bo
 · rename_i ex st' hne1 hne2 he
   split at Bo
   · rename_i ps rU
     injection Bo with Bo
     injection Bo with e1 e2
     subst e1;subst e2;refine Ip c ⟨args,bx⟩ _ st' fn.ntmps GJ he B T S M [] _ w _ Il ?_;cases ex with
     | normal=>exact fun S' M' a' w' hs hg Du=>fin st' ps rU S' M' a' w' hs hg Du
     | ret=>exact fun S' M' a' w' hs hg Du=>fin st' ps rU S' M' a' w' hs hg Du
     | exit id=>exact absurd rfl (hne2 id)
     | pan v=>exact absurd rfl (hne1 v)
   · cases Bo
 · cases Bo
theorem X7 {ev evb:Code->St->Option (Ex×St)} (hp:GX C) (Ip:DZ C false ev) (u7:DZ C true evb):DY C (GC C ev evb):=by
 intro f args bx cr bx' Bo;unfold GC at Bo;split at Bo
 · rename_i g hg
   split at Bo
   · rename_i ZK
     obtain ⟨r,hr,he⟩:=Aav.1 Bo;injection he with e1 e2
     subst e1;subst e2;obtain ⟨hb,hs⟩:=hp f g hg;refine ⟨hb,fun G0 B T S M vs w hh DJ=>?_⟩;obtain ⟨UE,hs⟩:=hs args r hr;refine (hs S vs w hh.holds hh.glob (fun g cs hg=>(hh.gw g cs hg).2.2) (DJ.ofPure [] ZK)).mono fun e w' ⟨S',hk,v,he,hv⟩=>?_;exact ⟨S',M,Sim.kept hh hk,hk.grows hh.hB,Aau _,UE,v,he,hv.mono (AJ.le.refl _) (fun id b h=>by simp at h)⟩
   · cases Bo
 · split at Bo
   · cases Bo
   · rename_i fn hf
     split at Bo
     · cases Bo
     · rename_i c hb
       split at Bo
       · rename_i EB
         simp only [Ab3,decide_eq_true_eq,Be,bne_iff_ne,ne_eq] at EB;obtain ⟨⟨GJ,Gt⟩,hlen⟩:=EB;exact Rb Ip hf hb (by simpa [Tu] using GJ) Gt hlen Bo
       · split at Bo
         · rename_i EB
           simp only [Ab3,decide_eq_true_eq,JG,bne_iff_ne,ne_eq] at EB;obtain ⟨⟨GJ,Gt⟩,hlen⟩:=EB;exact Rb u7 hf hb (by simpa [Tu] using GJ) Gt hlen Bo
         · cases Bo
def It (C:Cfg):Prop:=
 ∀ (f:FuncId) (k:Cat),C.cat f=some k->∀ (ev:Code->St->Option (Ex×St)),DZ C false ev->∀ (args:List PV) (bx:List PBox) (cr:CR) (bx':List PBox),Ev k ev args bx=some (cr,bx') ->
  Ff C.P f/\((∀ p ∈ args,∀ t xs,p≠.osl t xs)->∀ (B:Nat) (T:Nat->Prop) (S:AJ) (M:List Nat) (vs:List Value) (w:World),CO C B T S M bx w->Ce S M args vs ->
   Calls C.P f vs.toArray w fun e w'=>∃ S' M',CO C B T S' M' bx' w'/\Grows B T S w S' w'/\M <+: M'/\Outcome S' M' cr e)
theorem nX {C:Cfg} (h:∀ f,C.cat f=none):It C:=fun f k hk=>by rw [h f] at hk;cases hk
theorem Pe {ev evb:Code->St->Option (Ex×St)} (hh:Hb C) (hp:GX C) (O5:It C) (Ip:DZ C false ev) (u7:DZ C true evb):DY C (Ep C ev evb):=by
 intro f args bx cr bx' Bo;unfold Ep at Bo;split at Bo
 · rename_i g hg
   obtain ⟨⟨p,v,b⟩,h1,h2⟩:=Aav.1 Bo;injection h2 with e1 e2
   subst e1;subst e2;exact hh f g hg args bx p v b h1
 · split at Bo
   · rename_i k hk
     exact O5 f k hk ev Ip args bx cr bx' Bo
   · exact X7 hp Ip u7 f args bx cr bx' Bo
theorem aB {br:Bool} {id:Nat} {ops:Array Oper} {draw:Bool} (h:Tu C br n (.region id ops draw)=true):dstOK n ops=true/\(draw=true->if br then CM C ops=true\/edgesOK ops=true else CM C ops=true):=by
 unfold Tu at h;cases br <;> simp [Fa,Eh] at h |-
 · refine ⟨h.1,fun hd=>?_⟩
   rcases h.2 with h2 | h2
   · rw [hd] at h2;cases h2
   · exact h2
 · refine ⟨h.1,fun hd=>?_⟩
   rcases h.2 with (h2 | h2) | h2
   · rw [hd] at h2;cases h2
   · exact .inl h2
   · exact .inr h2
theorem nY {br:Bool} {x y:Code} (h:Tu C br n (.seq x y)=true):Tu C br n x=true/\Tu C br n y=true:=by
 unfold Tu at *;cases br <;> simp [Fa,Eh] at h|-<;> exact h
theorem ja {br:Bool} {c:Operand} {x y:Code} (h:Tu C br n (.cond c x y)=true):Tu C br n x=true/\Tu C br n y=true:=by
 unfold Tu at *;cases br <;> simp [Fa,Eh] at h|-<;> exact h
theorem fl {br:Bool} {i:Nat} {x:Code} (h:Tu C br n (.block i x)=true):Tu C br n x=true:=by
 unfold Tu at *;cases br <;> simp [Fa,Eh] at h|-<;> exact h
theorem jb {br:Bool} {x:Code} (h:Tu C br n (.loop x)=true):Tu C br n x=true:=by
 unfold Tu at *;cases br <;> simp [Fa,Eh] at h|-<;> exact h
theorem F4 (hh:Hb C) (hp:GX C) (O5:It C) (VT:U5 C) (D1:MH C):∀ k br,DZ C br (BW C k br)
 | 0,br=>fun c st ex st' n _ he=>by simp [BW] at he
 | k+1,br=>by
  have ih:=F4 hh hp O5 VT D1 k br;have ihc:=Pe hh hp O5 (F4 hh hp O5 VT D1 k false) (F4 hh hp O5 VT D1 k true);intro c st ex st' n EB he B T S M D a w Q h hq;cases c with
  | skip=>
   simp only [BW,Option.some.injEq,Prod.mk.injEq] at he;obtain ⟨rfl,rfl⟩:=he;exact wp_skip (hq S M a w h (Grows.refl _ _ _ _) (Aau _))
  | label l=>
   simp only [BW,Option.some.injEq,Prod.mk.injEq] at he;obtain ⟨rfl,rfl⟩:=he;exact wp_label (hq S M a w h (Grows.refl _ _ _ _) (Aau _))
  | region id ops draw=>
   simp only [BW] at he;obtain ⟨Ti,UG⟩:=aB EB;cases draw with
   | false=>
    simp only [Bool.and_false,Ab1,if_false] at he;exact wp_region_list (CW ihc false ops ops.toList [] st S M a w (Ej Ti) h (fun p hp=>by simp at hp) he hq)
   | true=>
    have UG:=UG rfl;cases br with
    | false=>
     simp only [Bool.false_and,Ab1,if_false] at he UG;exact VT _ ihc id ops n ex st st' B T S M D a w Q Ti UG he h hq
    | true=>
     simp only [Bool.and_self,if_true] at he UG;unfold G4 at he;split at he
     · rename_i QV
       exact VT _ ihc id ops n ex st st' B T S M D a w Q Ti QV he h hq
     · rename_i QV
       exact D1 _ ihc id ops n ex st st' B T S M D a w Q Ti (UG.resolve_left QV) he h hq
  | seq x y=>
   simp only [BW] at he;have EB:=nY EB;refine wp_seq ?_;split at he
   · rename_i st1 h1
     refine ih x st _ st1 n EB.1 h1 B T S M D a w _ h ?_;exact fun S' M' a' w' hs hg Du=>ih y st1 ex st' n EB.2 he B T S' M' D a' w' Q hs (hq.of_grows hg Du)
   · rename_i Dx
     refine ih x st ex st' n EB.1 he B T S M D a w _ h ?_;cases ex with
     | normal=>exact absurd he (Dx st')
     | exit id=>exact hq
     | ret=>exact hq
     | pan v=>exact hq
  | cond c x y=>
   simp only [BW] at he;have EB:=ja EB;split at he
   · rename_i t ht
     have hx:=h.opd c;rw [ht] at hx;refine wp_cond hx.bool_inv ?_;refine ih _ st ex st' n ?_ he B T S M D a w Q h hq;cases t
     · exact EB.2
     · exact EB.1
   · cases he
  | block id b=>
   simp only [BW] at he;have EB:=fl EB;refine wp_block ?_;split at he
   · rename_i id' st1 h1
     refine ih b st _ st1 n EB h1 B T S M D a w _ h ?_;intro S' M' a' w' hs hg Du;show (if id'=id then Q .normal a' w' else Q (.exit id') a' w');split at he
     · rename_i hid
       injection he with he
       injection he with e1 e2
       subst e1;subst e2;rw [if_pos hid];exact hq S' M' a' w' hs hg Du
     · rename_i hid
       injection he with he
       injection he with e1 e2
       subst e1;subst e2;rw [if_neg hid];exact hq S' M' a' w' hs hg Du
   · rename_i Dx
     refine ih b st ex st' n EB he B T S M D a w _ h ?_;cases ex with
     | normal=>exact hq
     | exit id=>exact absurd he (Dx id st')
     | ret=>exact hq
     | pan v=>exact hq
  | loop b=>
   have hok':=jb EB
   refine PC (fun j a1 w1=>j<=k+1/\∃ st1 S1 M1,BW C j br (.loop b) st1=some (ex,st')/\Sim C D B T S1 M1 n st1 a1 w1/\Grows B T S w S1 w1/\M <+: M1)
    (fun a1 w1 ⟨_,st1,S1,M1,h1,_⟩=>by simp [BW] at h1) (fun j a1 w1 ⟨hj,st1,S1,M1,yI,Z1,qD,Xx⟩=>?_) (j:=k+1) ⟨Nat.le_refl _,st,S,M,he,h,Grows.refl _ _ _ _,Aau _⟩
   have ihj:=F4 hh hp O5 VT D1 j br;simp only [BW] at yI;split at yI
   · rename_i st2 h2
     refine ihj b st1 _ st2 n hok' h2 B T S1 M1 D a1 w1 _ Z1 ?_;exact fun S' M' a' w' hs hg Du=>⟨by omega,st2,S',M',yI,hs,qD.trans hg,Xx.trans Du⟩
   · rename_i Dx
     refine ihj b st1 ex st' n hok' yI B T S1 M1 D a1 w1 _ Z1 ?_;have uV:=hq.of_grows qD Xx;cases ex with
     | normal=>exact absurd yI (Dx st')
     | exit id=>exact uV
     | ret=>exact uV
     | pan v=>exact uV
  | exit id=>
   simp only [BW,Option.some.injEq,Prod.mk.injEq] at he;obtain ⟨rfl,rfl⟩:=he;exact wp_exit (hq S M a w h (Grows.refl _ _ _ _) (Aau _))
  | ret=>
   simp only [BW,Option.some.injEq,Prod.mk.injEq] at he;obtain ⟨rfl,rfl⟩:=he;exact wp_ret (hq S M a w h (Grows.refl _ _ _ _) (Aau _))
  | rangeFunc f ps as b=>simp [BW] at he
  | scope b=>simp [BW] at he
  | goto l=>simp [BW] at he
  | refuse s=>simp [BW] at he
end
end Go.HH
