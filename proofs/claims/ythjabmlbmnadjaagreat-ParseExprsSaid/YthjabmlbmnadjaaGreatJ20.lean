/-
  What the law needs, packed: Code.
-/
import Derived.Test.YthjabmlbmnadjaaGreatJ19
open List renaming prefix_refl->yW,getElem_mem->y4
open Option renaming map_eq_some_iff->yX
open Array renaming replicate->yY,getD_eq_getD_getElem?->y0
open Go.Result renaming andThen_ok->yZ
open Go.Sem renaming run_pure->y1,run_bind->y2
open Bool renaming false_eq_true->y3,and_eq_true->y5
open Go.Code renaming region->y6
namespace Go.HH
open Go Go.RowKit
def HE (C:Cfg):Prop:=
 ∀ (f:FuncId) (g:List PV->Option PV),C.prim f=some g->F4 C.P f/\∀ (args:List PV) (r:PV),g args=some r->(∀ t xs,r≠.osl t xs) /\
  ∀ (S:AY) (vs:List Value) (w:World),(∀ b o v,S b o=some v->w.cell? ⟨b,o,none⟩=some v) ->
   (∀ g cs,C.glob g=some cs->Rep S [] (.ip cs) (.pointer (some ⟨g,0,none⟩)))->(∀ g cs,C.glob g=some cs->∃ c e f,w.heap[g]?=some (.cells c e f)/\c.size=cs.length)->CD S [] args vs ->
   Calls C.P f vs.toArray w fun e w'=>∃ S',Kept S w S' w'/\∃ v,e=.returned v/\Rep S' [] r v
def H0 (C:Cfg):Prop:=
 ∀ (f:FuncId) (g:List PV->List PBox->Option (Bool×PV×List PBox)),C.hprim f=some g->∀ (args:List PV) (bx:List PBox) (p:Bool) (v:PV) (bx':List PBox),g args bx=some (p,v,bx') ->
  F4 C.P f/\((∀ p ∈ args,∀ t xs,p≠.osl t xs) ->
   ∀ (B:Nat) (T:Nat->Prop) (S:AY) (M:List Nat) (vs:List Value) (w:World),Du C B T S M bx w->CD S M args vs ->
    Calls C.P f vs.toArray w fun e w'=>∃ S' M',Du C B T S' M' bx' w'/\Grows B T S w S' w'/\M <+: M'/\Outcome S' M' (if p then .pan v else .ret v) e)
def V' (C:Cfg):Prop:=
 ∀ (call:C4),EH C call->∀ (id:Nat) (ops:Array Oper) (n:Nat) (ex:Ex) (st st':St) (B:Nat) (T:Nat->Prop) (S:AY) (M:List Nat) (D:List Deferred) (a:Act) (w:World) (Q:Exit->Act->World->Prop),
  dstOK n ops=true->Cl C ops=true->evOps C call true ops ops.toList [] st=some (ex,st')->Sim C D B T S M n st a w->Ends C D B T S M n w ex st' Q->(y6 id ops true).wp C.P Q a w
def Oe (C:Cfg):Prop:=
 ∀ (call:C4),EH C call->∀ (id:Nat) (ops:Array Oper) (n:Nat) (ex:Ex) (st st':St) (B:Nat) (T:Nat->Prop) (S:AY) (M:List Nat) (D:List Deferred) (a:Act) (w:World) (Q:Exit->Act->World->Prop),
  dstOK n ops=true->edgesOK ops=true->drawAll C call ops st=some (ex,st')->Sim C D B T S M n st a w->Ends C D B T S M n w ex st' Q->(y6 id ops true).wp C.P Q a w
theorem QI {P:Program} {Q:Exit->Act->World->Prop} {c:Code} (I:Nat->Act->World->Prop) (h0:∀ a w,¬ I 0 a w)
 (round:∀ j a w,I (j+1) a w->c.wp P (Exit.then (fun a' w'=>I j a' w') Q) a w) {j:Nat} {a:Act} {w:World} (h:I j a w):(Code.loop c).wp P Q a w:=by
 intro b k cs
 have key:∀ j a w,I j a w->∃ e a' w',Q e a' w'/\Arrives P (lone (b.at a (.code c :: .inLoop c :: k)) cs w) b k cs e a' w':=by
  intro j
  induction j with
  | zero=>intro a w h;exact absurd h (h0 a w)
  | succ j ih=>
   intro a w hI;obtain ⟨e,a₁,w₁,hq,ba⟩:=round j a w hI b (.inLoop c :: k) cs;cases e with
   | normal=>
    obtain ⟨e₂,a₂,w₂,hq₂,harr₂⟩:=ih a₁ w₁ hq;exact ⟨e₂,a₂,w₂,hq₂,.of_steps (Steps.trans ba (.one step_inLoop)) harr₂⟩
   | exit id=>exact ⟨_,a₁,w₁,hq,.pass (x:=.inLoop c) rfl (fun _ _=>.inl (by simp)) ba⟩
   | goto l=>exact ⟨_,a₁,w₁,hq,.pass (x:=.inLoop c) rfl (fun _ _=>.inl (by simp)) ba⟩
   | ret=>exact ⟨_,a₁,w₁,hq,.pass (x:=.inLoop c) rfl (fun _ _=>.inl (by simp)) ba⟩
   | panic ch=>exact ⟨_,a₁,w₁,hq,.pass (x:=.inLoop c) rfl (fun _ _=>.inl (by simp)) ba⟩
   | outgrown=>exact ⟨_,a₁,w₁,hq,.pass (x:=.inLoop c) rfl (fun _ _=>.inl (by simp)) ba⟩
 obtain ⟨e,a',w',hq,ba⟩:=key j a w h;exact ⟨e,a',w',hq,.of_steps (.one step_loop) ba⟩
section
variable {C:Cfg} {D:List Deferred} {B:Nat} {T:Nat->Prop} {S:AY} {M:List Nat} {n:Nat} {st:St} {a:Act} {w:World}
theorem Fa {ops:Array Oper} (h:dstOK n ops=true):∀ o ∈ ops.toList,∀ k,o.dst=some k->k < n:=by
 intro o ho k hk;unfold dstOK at h;rw [List.all_eq_true] at h;have:=h o ho;rw [hk] at this;simpa using this
theorem Y1 {α:Type} (g:α->Sem Value):∀ (l:List α) (vs:List Value),l.length=vs.length->(∀ i (h:i < l.length) (h':i < vs.length),(g l[i]).run C.P w=.ok vs[i] w)->(l.mapM g).run C.P w=.ok vs w
 | [],vs,hl,_=>by
  have:vs=[]:=List.eq_nil_of_length_eq_zero hl.symm;subst this;simp
 | x :: r,vs,hl,h=>by
  cases vs with
  | nil=>simp at hl
  | cons v vs=>
   have h0:=h 0 (by simp) (by simp);simp only [List.getElem_cons_zero] at h0
   have ih:=Y1 g r vs (by simpa using hl) (fun i a b=>by
    have:=h (i+1) (by simpa using a) (by simpa using b);simp only [List.getElem_cons_succ] at this;exact this)
   simp only [List.mapM_cons,y2,h0,ih,yZ,y1]
def L6 (tmps:Array Value):ResultVar->Sem Value
 | .tmp t=>pure (tmps.getD t undef)
 | .cell a t=>do loadVar t (<- asAddr (tmps.getD a undef))
theorem JP (h:Sim C D B T S M n st a w):∀ (rs:List ResultVar) (ps:List PV),CU C st rs=some ps ->
 ∃ vs:List Value,CD S M ps vs/\rs.length=vs.length/\(∀ p ∈ ps,∀ e xs,p≠.osl e xs) /\
  ∀ i (hi:i < rs.length) (Ey:i < vs.length),(L6 a.tmps rs[i]).run C.P w=.ok vs[i] w
 | [],ps,he=>by
  simp only [CU,Option.some.injEq] at he;subst he;exact ⟨[],.nil S M,rfl,fun p hp=>by simp at hp,fun i hi=>by simp at hi⟩
 | r :: rs,ps,he=>by
  unfold CU at he;split at he
  · rename_i p ps' hp sV
    injection he with he
    subst he;obtain ⟨vs,h1,h2,h3,h4⟩:=JP h rs ps' sV
    have key:∃ v,Rep S M p v/\(∀ e xs,p≠.osl e xs)/\(L6 a.tmps r).run C.P w=.ok v w:=by
     unfold Iu at hp;split at hp
     · rename_i t
       injection hp with hp
       subst hp;exact ⟨_,(h.opd (.tmp t)).shutV,fun e xs=>F6 _ e xs,rfl⟩
     · rename_i ad t
       obtain ⟨q,hq,rfl⟩:=yX.1 hp;obtain ⟨v,hv,rv⟩:=V5 h hq;refine ⟨v,rv.shutV,fun e xs=>F6 _ e xs,?_⟩;have hx:=h.opd (.tmp ad)
       have:∃ x,a.tmps.getD ad undef=.pointer (some x):=by
        unfold HO at hq;split at hq
        · rename_i cs Jc;rw [Jc] at hx;obtain ⟨b,o,e,_⟩:=hx.ip_cells;exact ⟨_,e⟩
        · rename_i id off Jc;rw [Jc] at hx;obtain ⟨b,_,e⟩:=hx.bp_inv;exact ⟨_,e⟩
        · cases hq
       obtain ⟨x,hx⟩:=this;have Ie:a.eval (.tmp ad)=.pointer (some x):=hx;rw [Ie] at hv;simp only [L6,hx,asAddr,y2,y1,yZ];simpa [Instr.loadAt,Instr.sureAddr] using hv
    obtain ⟨v,k1,k2,k3⟩:=key;refine ⟨v :: vs,h1.cons' k1,by simp [h2],fun q hq=>?_,fun i hi Ey=>?_⟩
    · rcases List.mem_cons.1 hq with rfl | hq
      · exact k2
      · exact h3 q hq
    · cases i with
      | zero=>exact k3
      | succ i=>exact h4 i (by simpa using hi) (by simpa using Ey)
  · cases he
theorem IA {fn:Func} {rs:List ResultVar} (sW:fn.results.toList=rs) {vs:List Value} (hl:rs.length=vs.length)
 (h:∀ i (hi:i < rs.length) (Ey:i < vs.length),(L6 a.tmps rs[i]).run C.P w=.ok vs[i] w) :
 (results fn a.tmps).run C.P w=.ok (if hh:vs.length=1 then vs[0] else .tuple vs.toArray) w:=by
 have e:results fn a.tmps=(do
  let vs <- fn.results.mapM (L6 a.tmps)
  pure (if h:vs.size=1 then vs[0] else .tuple vs):Sem Value):=by
  unfold results
  congr 2
 rw [e,Array.mapM_eq_mapM_toList,sW];have:=Y1 (C:=C) (w:=w) (L6 a.tmps) rs vs hl h;simp only [y2,Sem.run_map,this,yZ,y1,List.size_toArray,List.getElem_toArray]
theorem Wa {ps:List PV} {vs:List Value} (h:CD S M ps vs) (HM:∀ p ∈ ps,∀ e xs,p≠.osl e xs):Rep S M (Je ps) (if hh:vs.length=1 then vs[0] else .tuple vs.toArray)/\∀ e xs,Je ps≠.osl e xs:=by
 match ps,vs,h with
 | [p],[v],h=>exact ⟨h.2 0 (by simp) (by simp),HM p (by simp)⟩
 | [],[],h=>exact ⟨.tup [] _ rfl (fun i h=>by simp at h),fun e xs=>by simp [Je]⟩
 | p :: q :: r,[],h=>exact absurd h.1 (by simp)
 | p :: q :: r,[v],h=>exact absurd h.1 (by simp)
 | [],v :: vs,h=>exact absurd h.1 (by simp)
 | [p],[],h=>exact absurd h.1 (by simp)
 | [p],v :: u :: vs,h=>exact absurd h.1 (by simp)
 | p :: q :: r,v :: u :: vs,h=>
  refine ⟨?_,fun e xs=>by simp [Je]⟩;rw [dif_neg (by simp)];exact .tup _ _ (by simp [h.1]) (fun i a b=>by have:=h.2 i a (by simpa using b);simpa using this)
theorem R8 (k i:Nat):(yY k undef).getD i undef=undef:=by
 simp [Array.getD]
theorem Du.enter {bx:List PBox} (hh:Du C B T S M bx w) {args:List PV} {vs:List Value} (hr:CD S M args vs) (HM:∀ p ∈ args,∀ e xs,p≠.osl e xs) {k:Nat} (hk:args.length<=k) :
 Sim C [] B T S M k ⟨args,bx⟩ { tmps:=vs.toArray++yY (k - vs.toArray.size) undef,defers:=[] } w:=by
 have hl:=hr.1
 have get:∀ t,(vs.toArray++yY (k - vs.toArray.size) undef).getD t undef=if h:t < vs.length then vs[t] else undef:=by
  intro t;rw [y0,Array.getElem?_append];split
  · rename_i ht
    simp at ht;rw [dif_pos ht];simp [ht]
  · rename_i ht
    simp at ht;rw [dif_neg (by omega),<- y0,R8]
 have env:∀ t,(∃ h:t < args.length,getT args t=args[t])\/(args.length<=t/\getT args t=und):=by
  intro t;rcases Nat.lt_or_ge t args.length with h | h
  · exact .inl ⟨h,by simp [getT,h]⟩
  · exact .inr ⟨h,by simp [getT,h]⟩
 refine ⟨hh.holds,hh.glob,hh.gw,by simp;omega,rfl,fun t=>?_,hh.mlen,hh.boxes,hh.nodup,hh.mS,hh.mT,hh.hB,fun l e xs v hl=>?_,fun l l' e e' xs xs' v v' g hl FU hv QD=>?_⟩
 · rw [get]
   rcases env t with ⟨h,e⟩ | ⟨h,e⟩
   · rw [e,dif_pos (by omega)];exact hr.2 t h (by omega)
   · rw [e,dif_neg (by omega)];exact .und S M
 · cases l with
   | tmp t=>
    exfalso;obtain ⟨h1,_⟩:=hl;rcases env t with ⟨h,e'⟩ | ⟨h,e'⟩
    · simp only at h1
      rw [e'] at h1;exact HM _ (y4 h) e xs h1
    · simp only at h1
      rw [e'] at h1;simp [und] at h1
   | box id off=>exact hh.own (.box id off) e xs v hl
 · have notmp:∀ t e xs v,¬ LocAt ⟨args,bx⟩ M { tmps:=vs.toArray++yY (k - vs.toArray.size) undef,defers:=[] } w (.tmp t) (.osl e xs) v:=by
    rintro t e xs v ⟨h1,_⟩
    rcases env t with ⟨h,e'⟩ | ⟨h,e'⟩
    · simp only at h1
      rw [e'] at h1;exact HM _ (y4 h) e xs h1
    · simp only at h1
      rw [e'] at h1;simp [und] at h1
   cases l with
   | tmp t=>exact absurd hl (notmp t e xs v)
   | box id off=>
    cases l' with
    | tmp t=>exact absurd FU (notmp t e' xs' v')
    | box id' off'=>exact hh.apart (.box id off) (.box id' off') e e' xs xs' v v' g hl FU hv QD
def Ur (C:Cfg) (br:Bool) (n:Nat) (c:Code):Bool:=if br then E' C n c else F1 C n c
def EI (C:Cfg) (br:Bool) (ev:Code->St->Option (Ex×St)):Prop:=
 ∀ (c:Code) (st:St) (ex:Ex) (st':St) (n:Nat),Ur C br n c=true->ev c st=some (ex,st') ->
  ∀ (B:Nat) (T:Nat->Prop) (S:AY) (M:List Nat) (D:List Deferred) (a:Act) (w:World) (Q:Exit->Act->World->Prop),Sim C D B T S M n st a w->Ends C D B T S M n w ex st' Q->c.wp C.P Q a w
theorem R9 {br:Bool} {ev:Code->St->Option (Ex×St)} (N4:EI C br ev) {f:FuncId} {fn:Func} {c:Code} (hf:C.P.funcs[f]?=some fn) (hb:fn.body=some c) (ES:Ur C br fn.ntmps c=true) (Hc:fn.name≠"runtime.NumGoroutine")
 {args:List PV} {bx:List PBox} {cr:CR} {bx':List PBox} (hlen:args.length<=fn.ntmps) (BD:mM C fn (ev c ⟨args,bx⟩)=some (cr,bx')) :
 F4 C.P f/\((∀ p ∈ args,∀ t xs,p≠.osl t xs)->∀ (B:Nat) (T:Nat->Prop) (S:AY) (M:List Nat) (vs:List Value) (w:World),Du C B T S M bx w->CD S M args vs ->
  Calls C.P f vs.toArray w fun e w'=>∃ S' M',Du C B T S' M' bx' w'/\Grows B T S w S' w'/\M <+: M'/\Outcome S' M' cr e):=by
 refine ⟨⟨fn,c,hf,by simpa using Hc,hb⟩,fun HM B T S M vs w hh Ez=>?_⟩;refine calls_of_wp hf hb ?_;have Ja:=hh.enter Ez HM hlen
 have fin:∀ (st':St) (ps:List PV),CU C st' fn.results.toList=some ps->∀ S' M' a' w',Sim C [] B T S' M' fn.ntmps st' a' w'->Grows B T S w S' w'->M <+: M' ->
  a'.defers=[]/\∃ v,(results fn a'.tmps).run C.P w'=.ok v w'/\∃ S'' M'',Du C B T S'' M'' st'.bx w'/\Grows B T S w S'' w'/\M <+: M''/\Outcome S'' M'' (.ret (Je ps)) (.returned v):=by
  intro st' ps sV S' M' a' w' hs hg CY;obtain ⟨us,h1,h2,h3,h4⟩:=JP hs _ ps sV;obtain ⟨h5,h6⟩:=Wa h1 h3;exact ⟨hs.dfr,_,IA rfl h2 h4,S',M',hs.heapOnly,hg,CY,h6,_,rfl,h5⟩
 unfold mM at BD;split at BD
 · rename_i v st' he
   injection BD with BD
   injection BD with e1 e2
   subst e1;subst e2;refine N4 c ⟨args,bx⟩ _ st' fn.ntmps ES he B T S M [] _ w _ Ja ?_;intro S' M' a' w' x u e' _ hs hg CY iz hx;subst hx;exact ⟨hs.dfr,S',M',hs.heapOnly,hg,CY,u,rfl,iz⟩
 · cases BD
 · rename_i ex st' hne1 hne2 he
   split at BD
   · rename_i ps sV
     injection BD with BD
     injection BD with e1 e2
     subst e1;subst e2;refine N4 c ⟨args,bx⟩ _ st' fn.ntmps ES he B T S M [] _ w _ Ja ?_;cases ex with
     | normal=>exact fun S' M' a' w' hs hg CY=>fin st' ps sV S' M' a' w' hs hg CY
     | ret=>exact fun S' M' a' w' hs hg CY=>fin st' ps sV S' M' a' w' hs hg CY
     | exit id=>exact absurd rfl (hne2 id)
     | pan v=>exact absurd rfl (hne1 v)
   · cases BD
 · cases BD
theorem Y2 {ev evb:Code->St->Option (Ex×St)} (hp:HE C) (N4:EI C false ev) (rT:EI C true evb):EH C (HS C ev evb):=by
 intro f args bx cr bx' BD;unfold HS at BD;split at BD
 · rename_i g hg
   split at BD
   · rename_i aZ
     obtain ⟨r,hr,he⟩:=yX.1 BD;injection he with e1 e2
     subst e1;subst e2;obtain ⟨hb,hs⟩:=hp f g hg;refine ⟨hb,fun HM B T S M vs w hh Ez=>?_⟩;obtain ⟨VO,hs⟩:=hs args r hr;refine (hs S vs w hh.holds hh.glob (fun g cs hg=>(hh.gw g cs hg).2.2) (Ez.ofPure [] aZ)).mono fun e w' ⟨S',hk,v,he,hv⟩=>?_;exact ⟨S',M,Sim.kept hh hk,hk.grows hh.hB,yW _,VO,v,he,hv.mono (AY.le.refl _) (fun id b h=>by simp at h)⟩
   · cases BD
 · split at BD
   · cases BD
   · rename_i fn hf
     split at BD
     · cases BD
     · rename_i c hb
       split at BD
       · rename_i Ek
         simp only [y5,decide_eq_true_eq,Bk,bne_iff_ne,ne_eq] at Ek;obtain ⟨⟨ES,Hc⟩,hlen⟩:=Ek;exact R9 N4 hf hb (by simpa [Ur] using ES) Hc hlen BD
       · split at BD
         · rename_i Ek
           simp only [y5,decide_eq_true_eq,GY,bne_iff_ne,ne_eq] at Ek;obtain ⟨⟨ES,Hc⟩,hlen⟩:=Ek;exact R9 rT hf hb (by simpa [Ur] using ES) Hc hlen BD
         · cases BD
def Jg (C:Cfg):Prop:=
 ∀ (f:FuncId) (k:Cat),C.cat f=some k->∀ (ev:Code->St->Option (Ex×St)),EI C false ev->∀ (args:List PV) (bx:List PBox) (cr:CR) (bx':List PBox),Ea k ev args bx=some (cr,bx') ->
  F4 C.P f/\((∀ p ∈ args,∀ t xs,p≠.osl t xs)->∀ (B:Nat) (T:Nat->Prop) (S:AY) (M:List Nat) (vs:List Value) (w:World),Du C B T S M bx w->CD S M args vs ->
   Calls C.P f vs.toArray w fun e w'=>∃ S' M',Du C B T S' M' bx' w'/\Grows B T S w S' w'/\M <+: M'/\Outcome S' M' cr e)
theorem mQ {C:Cfg} (h:∀ f,C.cat f=none):Jg C:=fun f k hk=>by rw [h f] at hk;cases hk
theorem Qk {ev evb:Code->St->Option (Ex×St)} (hh:H0 C) (hp:HE C) (Qa:Jg C) (N4:EI C false ev) (rT:EI C true evb):EH C (Fu C ev evb):=by
 intro f args bx cr bx' BD;unfold Fu at BD;split at BD
 · rename_i g hg
   obtain ⟨⟨p,v,b⟩,h1,h2⟩:=yX.1 BD;injection h2 with e1 e2
   subst e1;subst e2;exact hh f g hg args bx p v b h1
 · split at BD
   · rename_i k hk
     exact Qa f k hk ev N4 args bx cr bx' BD
   · exact Y2 hp N4 rT f args bx cr bx' BD
theorem bT {br:Bool} {id:Nat} {ops:Array Oper} {draw:Bool} (h:Ur C br n (.region id ops draw)=true):dstOK n ops=true/\(draw=true->if br then Cl C ops=true\/edgesOK ops=true else Cl C ops=true):=by
 unfold Ur at h;cases br <;> simp [F1,E'] at h |-
 · refine ⟨h.1,fun hd=>?_⟩
   rcases h.2 with h2 | h2
   · rw [hd] at h2;cases h2
   · exact h2
 · refine ⟨h.1,fun hd=>?_⟩
   rcases h.2 with (h2 | h2) | h2
   · rw [hd] at h2;cases h2
   · exact .inl h2
   · exact .inr h2
theorem mR {br:Bool} {x y:Code} (h:Ur C br n (.seq x y)=true):Ur C br n x=true/\Ur C br n y=true:=by
 unfold Ur at *;cases br <;> simp [F1,E'] at h|-<;> exact h
theorem jn {br:Bool} {c:Operand} {x y:Code} (h:Ur C br n (.cond c x y)=true):Ur C br n x=true/\Ur C br n y=true:=by
 unfold Ur at *;cases br <;> simp [F1,E'] at h|-<;> exact h
theorem fR {br:Bool} {i:Nat} {x:Code} (h:Ur C br n (.block i x)=true):Ur C br n x=true:=by
 unfold Ur at *;cases br <;> simp [F1,E'] at h|-<;> exact h
theorem jo {br:Bool} {x:Code} (h:Ur C br n (.loop x)=true):Ur C br n x=true:=by
 unfold Ur at *;cases br <;> simp [F1,E'] at h|-<;> exact h
theorem GC (hh:H0 C) (hp:HE C) (Qa:Jg C) (WN:V' C) (FA:Oe C):∀ k br,EI C br (Cs C k br)
 | 0,br=>fun c st ex st' n _ he=>by simp [Cs] at he
 | k+1,br=>by
  have ih:=GC hh hp Qa WN FA k br;have ihc:=Qk hh hp Qa (GC hh hp Qa WN FA k false) (GC hh hp Qa WN FA k true);intro c st ex st' n Ek he B T S M D a w Q h hq;cases c with
  | skip=>
   simp only [Cs,Option.some.injEq,Prod.mk.injEq] at he;obtain ⟨rfl,rfl⟩:=he;exact wp_skip (hq S M a w h (Grows.refl _ _ _ _) (yW _))
  | label l=>
   simp only [Cs,Option.some.injEq,Prod.mk.injEq] at he;obtain ⟨rfl,rfl⟩:=he;exact wp_label (hq S M a w h (Grows.refl _ _ _ _) (yW _))
  | region id ops draw=>
   simp only [Cs] at he;obtain ⟨Ud,VP⟩:=bT Ek;cases draw with
   | false=>
    simp only [Bool.and_false,y3,if_false] at he;exact wp_region_list (DB ihc false ops ops.toList [] st S M a w (Fa Ud) h (fun p hp=>by simp at hp) he hq)
   | true=>
    have VP:=VP rfl;cases br with
    | false=>
     simp only [Bool.false_and,y3,if_false] at he VP;exact WN _ ihc id ops n ex st st' B T S M D a w Q Ud VP he h hq
    | true=>
     simp only [Bool.and_self,if_true] at he VP;unfold GX at he;split at he
     · rename_i xP
       exact WN _ ihc id ops n ex st st' B T S M D a w Q Ud xP he h hq
     · rename_i xP
       exact FA _ ihc id ops n ex st st' B T S M D a w Q Ud (VP.resolve_left xP) he h hq
  | seq x y=>
   simp only [Cs] at he;have Ek:=mR Ek;refine wp_seq ?_;split at he
   · rename_i st1 h1
     refine ih x st _ st1 n Ek.1 h1 B T S M D a w _ h ?_;exact fun S' M' a' w' hs hg CY=>ih y st1 ex st' n Ek.2 he B T S' M' D a' w' Q hs (hq.of_grows hg CY)
   · rename_i DZ
     refine ih x st ex st' n Ek.1 he B T S M D a w _ h ?_;cases ex with
     | normal=>exact absurd he (DZ st')
     | exit id=>exact hq
     | ret=>exact hq
     | pan v=>exact hq
  | cond c x y=>
   simp only [Cs] at he;have Ek:=jn Ek;split at he
   · rename_i t ht
     have hx:=h.opd c;rw [ht] at hx;refine wp_cond hx.bool_inv ?_;refine ih _ st ex st' n ?_ he B T S M D a w Q h hq;cases t
     · exact Ek.2
     · exact Ek.1
   · cases he
  | block id b=>
   simp only [Cs] at he;have Ek:=fR Ek;refine wp_block ?_;split at he
   · rename_i id' st1 h1
     refine ih b st _ st1 n Ek h1 B T S M D a w _ h ?_;intro S' M' a' w' hs hg CY;show (if id'=id then Q .normal a' w' else Q (.exit id') a' w');split at he
     · rename_i Ad
       injection he with he
       injection he with e1 e2
       subst e1;subst e2;rw [if_pos Ad];exact hq S' M' a' w' hs hg CY
     · rename_i Ad
       injection he with he
       injection he with e1 e2
       subst e1;subst e2;rw [if_neg Ad];exact hq S' M' a' w' hs hg CY
   · rename_i DZ
     refine ih b st ex st' n Ek he B T S M D a w _ h ?_;cases ex with
     | normal=>exact hq
     | exit id=>exact absurd he (DZ id st')
     | ret=>exact hq
     | pan v=>exact hq
  | loop b=>
   have hok':=jo Ek
   refine QI (fun j a1 w1=>j<=k+1/\∃ st1 S1 M1,Cs C j br (.loop b) st1=some (ex,st')/\Sim C D B T S1 M1 n st1 a1 w1/\Grows B T S w S1 w1/\M <+: M1)
    (fun a1 w1 ⟨_,st1,S1,M1,h1,_⟩=>by simp [Cs] at h1) (fun j a1 w1 ⟨hj,st1,S1,M1,vl,Ig,pX,YG⟩=>?_) (j:=k+1) ⟨Nat.le_refl _,st,S,M,he,h,Grows.refl _ _ _ _,yW _⟩
   have ihj:=GC hh hp Qa WN FA j br;simp only [Cs] at vl;split at vl
   · rename_i st2 h2
     refine ihj b st1 _ st2 n hok' h2 B T S1 M1 D a1 w1 _ Ig ?_;exact fun S' M' a' w' hs hg CY=>⟨by omega,st2,S',M',vl,hs,pX.trans hg,YG.trans CY⟩
   · rename_i DZ
     refine ihj b st1 ex st' n hok' vl B T S1 M1 D a1 w1 _ Ig ?_;have rN:=hq.of_grows pX YG;cases ex with
     | normal=>exact absurd vl (DZ st')
     | exit id=>exact rN
     | ret=>exact rN
     | pan v=>exact rN
  | exit id=>
   simp only [Cs,Option.some.injEq,Prod.mk.injEq] at he;obtain ⟨rfl,rfl⟩:=he;exact wp_exit (hq S M a w h (Grows.refl _ _ _ _) (yW _))
  | ret=>
   simp only [Cs,Option.some.injEq,Prod.mk.injEq] at he;obtain ⟨rfl,rfl⟩:=he;exact wp_ret (hq S M a w h (Grows.refl _ _ _ _) (yW _))
  | rangeFunc f ps as b=>simp [Cs] at he
  | scope b=>simp [Cs] at he
  | goto l=>simp [Cs] at he
  | refuse s=>simp [Cs] at he
end
end Go.HH
