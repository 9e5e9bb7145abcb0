/-
  What the law needs, packed: Code.
-/
import Derived.Test.YthjcaihemgllaaaGreatDoorJ19
open List renaming prefix_refl->Aa0,getElem_mem->Aa8
open Option renaming map_eq_some_iff->Aa1
open Array renaming replicate->Aa2,getD_eq_getD_getElem?->Aa4
open Go.Result renaming andThen_ok->Aa3
open Go.Sem renaming run_pure->Aa5,run_bind->Aa6
open Bool renaming false_eq_true->Aa7,and_eq_true->Aa9
open Go.Code renaming region->Aaa
namespace Go.HH
open Go Go.RowKit
def GP (C:Cfg):Prop:=
 ∀ (f:FuncId) (g:List PV->Option PV),C.prim f=some g->Fi C.P f/\∀ (args:List PV) (r:PV),g args=some r->(∀ t xs,r≠.osl t xs) /\
  ∀ (S:AI) (vs:List Value) (w:World),(∀ b o v,S b o=some v->w.cell? ⟨b,o,none⟩=some v) ->
   (∀ g cs,C.glob g=some cs->Rep S [] (.ip cs) (.pointer (some ⟨g,0,none⟩)))->(∀ g cs,C.glob g=some cs->∃ c e f,w.heap[g]?=some (.cells c e f)/\c.size=cs.length)->Cd S [] args vs ->
   Calls C.P f vs.toArray w fun e w'=>∃ S',Kept S w S' w'/\∃ v,e=.returned v/\Rep S' [] r v
def G6 (C:Cfg):Prop:=
 ∀ (f:FuncId) (g:List PV->List PBox->Option (Bool×PV×List PBox)),C.hprim f=some g->∀ (args:List PV) (bx:List PBox) (p:Bool) (v:PV) (bx':List PBox),g args bx=some (p,v,bx') ->
  Fi C.P f/\((∀ p ∈ args,∀ t xs,p≠.osl t xs) ->
   ∀ (B:Nat) (T:Nat->Prop) (S:AI) (M:List Nat) (vs:List Value) (w:World),CO C B T S M bx w->Cd S M args vs ->
    Calls C.P f vs.toArray w fun e w'=>∃ S' M',CO C B T S' M' bx' w'/\Grows B T S w S' w'/\M <+: M'/\Outcome S' M' (if p then .pan v else .ret v) e)
def UQ (C:Cfg):Prop:=
 ∀ (call:Cl),DX C call->∀ (id:Nat) (ops:Array Oper) (n:Nat) (ex:Ex) (st st':St) (B:Nat) (T:Nat->Prop) (S:AI) (M:List Nat) (D:List Deferred) (a:Act) (w:World) (Q:Exit->Act->World->Prop),
  dstOK n ops=true->CL C ops=true->evOps C call true ops ops.toList [] st=some (ex,st')->Sim C D B T S M n st a w->Ends C D B T S M n w ex st' Q->(Aaa id ops true).wp C.P Q a w
def MD (C:Cfg):Prop:=
 ∀ (call:Cl),DX C call->∀ (id:Nat) (ops:Array Oper) (n:Nat) (ex:Ex) (st st':St) (B:Nat) (T:Nat->Prop) (S:AI) (M:List Nat) (D:List Deferred) (a:Act) (w:World) (Q:Exit->Act->World->Prop),
  dstOK n ops=true->edgesOK ops=true->drawAll C call ops st=some (ex,st')->Sim C D B T S M n st a w->Ends C D B T S M n w ex st' Q->(Aaa id ops true).wp C.P Q a w
theorem Pp {P:Program} {Q:Exit->Act->World->Prop} {c:Code} (I:Nat->Act->World->Prop) (h0:∀ a w,¬ I 0 a w)
 (round:∀ j a w,I (j+1) a w->c.wp P (Exit.then (fun a' w'=>I j a' w') Q) a w) {j:Nat} {a:Act} {w:World} (h:I j a w):(Code.loop c).wp P Q a w:=by
 intro b k cs
 have key:∀ j a w,I j a w->∃ e a' w',Q e a' w'/\Arrives P (lone (b.at a (.code c :: .inLoop c :: k)) cs w) b k cs e a' w':=by
  intro j
  induction j with
  | zero=>intro a w h;exact absurd h (h0 a w)
  | succ j ih=>
   intro a w hI;obtain ⟨e,a₁,w₁,hq,Zs⟩:=round j a w hI b (.inLoop c :: k) cs;cases e with
   | normal=>
    obtain ⟨e₂,a₂,w₂,hq₂,harr₂⟩:=ih a₁ w₁ hq;exact ⟨e₂,a₂,w₂,hq₂,.of_steps (Steps.trans Zs (.one step_inLoop)) harr₂⟩
   | exit id=>exact ⟨_,a₁,w₁,hq,.pass (x:=.inLoop c) rfl (fun _ _=>.inl (by simp)) Zs⟩
   | goto l=>exact ⟨_,a₁,w₁,hq,.pass (x:=.inLoop c) rfl (fun _ _=>.inl (by simp)) Zs⟩
   | ret=>exact ⟨_,a₁,w₁,hq,.pass (x:=.inLoop c) rfl (fun _ _=>.inl (by simp)) Zs⟩
   | panic ch=>exact ⟨_,a₁,w₁,hq,.pass (x:=.inLoop c) rfl (fun _ _=>.inl (by simp)) Zs⟩
   | outgrown=>exact ⟨_,a₁,w₁,hq,.pass (x:=.inLoop c) rfl (fun _ _=>.inl (by simp)) Zs⟩
 obtain ⟨e,a',w',hq,Zs⟩:=key j a w h;exact ⟨e,a',w',hq,.of_steps (.one step_loop) Zs⟩
section
variable {C:Cfg} {D:List Deferred} {B:Nat} {T:Nat->Prop} {S:AI} {M:List Nat} {n:Nat} {st:St} {a:Act} {w:World}
theorem Eh {ops:Array Oper} (h:dstOK n ops=true):∀ o ∈ ops.toList,∀ k,o.dst=some k->k < n:=by
 intro o ho k hk;unfold dstOK at h;rw [List.all_eq_true] at h;have:=h o ho;rw [hk] at this;simpa using this
theorem XR {α:Type} (g:α->Sem Value):∀ (l:List α) (vs:List Value),l.length=vs.length->(∀ i (h:i < l.length) (h':i < vs.length),(g l[i]).run C.P w=.ok vs[i] w)->(l.mapM g).run C.P w=.ok vs w
 | [],vs,hl,_=>by
  have:vs=[]:=List.eq_nil_of_length_eq_zero hl.symm;subst this;simp
 | x :: r,vs,hl,h=>by
  cases vs with
  | nil=>simp at hl
  | cons v vs=>
   have h0:=h 0 (by simp) (by simp);simp only [List.getElem_cons_zero] at h0
   have ih:=XR g r vs (by simpa using hl) (fun i a b=>by
    have:=h (i+1) (by simpa using a) (by simpa using b);simp only [List.getElem_cons_succ] at this;exact this)
   simp only [List.mapM_cons,Aa6,h0,ih,Aa3,Aa5]
def K8 (tmps:Array Value):ResultVar->Sem Value
 | .tmp t=>pure (tmps.getD t undef)
 | .cell a t=>do loadVar t (<- asAddr (tmps.getD a undef))
theorem I3 (h:Sim C D B T S M n st a w):∀ (rs:List ResultVar) (ps:List PV),Cn C st rs=some ps ->
 ∃ vs:List Value,Cd S M ps vs/\rs.length=vs.length/\(∀ p ∈ ps,∀ e xs,p≠.osl e xs) /\
  ∀ i (hi:i < rs.length) (Dp:i < vs.length),(K8 a.tmps rs[i]).run C.P w=.ok vs[i] w
 | [],ps,he=>by
  simp only [Cn,Option.some.injEq] at he;subst he;exact ⟨[],.nil S M,rfl,fun p hp=>by simp at hp,fun i hi=>by simp at hi⟩
 | r :: rs,ps,he=>by
  unfold Cn at he;split at he
  · rename_i p ps' hp rh
    injection he with he
    subst he;obtain ⟨vs,h1,h2,h3,h4⟩:=I3 h rs ps' rh
    have key:∃ v,Rep S M p v/\(∀ e xs,p≠.osl e xs)/\(K8 a.tmps r).run C.P w=.ok v w:=by
     unfold Hz at hp;split at hp
     · rename_i t
       injection hp with hp
       subst hp;exact ⟨_,(h.opd (.tmp t)).shutV,fun e xs=>Fk _ e xs,rfl⟩
     · rename_i ad t
       obtain ⟨q,hq,rfl⟩:=Aa1.1 hp;obtain ⟨v,hv,rv⟩:=UL h hq;refine ⟨v,rv.shutV,fun e xs=>Fk _ e xs,?_⟩;have hx:=h.opd (.tmp ad)
       have:∃ x,a.tmps.getD ad undef=.pointer (some x):=by
        unfold GV at hq;split at hq
        · rename_i cs JI;rw [JI] at hx;obtain ⟨b,o,e,_⟩:=hx.ip_cells;exact ⟨_,e⟩
        · rename_i id off JI;rw [JI] at hx;obtain ⟨b,_,e⟩:=hx.bp_inv;exact ⟨_,e⟩
        · cases hq
       obtain ⟨x,hx⟩:=this;have Hw:a.eval (.tmp ad)=.pointer (some x):=hx;rw [Hw] at hv;simp only [K8,hx,asAddr,Aa6,Aa5,Aa3];simpa [Instr.loadAt,Instr.sureAddr] using hv
    obtain ⟨v,k1,k2,k3⟩:=key;refine ⟨v :: vs,h1.cons' k1,by simp [h2],fun q hq=>?_,fun i hi Dp=>?_⟩
    · rcases List.mem_cons.1 hq with rfl | hq
      · exact k2
      · exact h3 q hq
    · cases i with
      | zero=>exact k3
      | succ i=>exact h4 i (by simpa using hi) (by simpa using Dp)
  · cases he
theorem HF {fn:Func} {rs:List ResultVar} (vo:fn.results.toList=rs) {vs:List Value} (hl:rs.length=vs.length)
 (h:∀ i (hi:i < rs.length) (Dp:i < vs.length),(K8 a.tmps rs[i]).run C.P w=.ok vs[i] w) :
 (results fn a.tmps).run C.P w=.ok (if hh:vs.length=1 then vs[0] else .tuple vs.toArray) w:=by
 have e:results fn a.tmps=(do
  let vs <- fn.results.mapM (K8 a.tmps)
  pure (if h:vs.size=1 then vs[0] else .tuple vs):Sem Value):=by
  unfold results
  congr 2
 rw [e,Array.mapM_eq_mapM_toList,vo];have:=XR (C:=C) (w:=w) (K8 a.tmps) rs vs hl h;simp only [Aa6,Sem.run_map,this,Aa3,Aa5,List.size_toArray,List.getElem_toArray]
theorem UR {ps:List PV} {vs:List Value} (h:Cd S M ps vs) (GU:∀ p ∈ ps,∀ e xs,p≠.osl e xs):Rep S M (Ii ps) (if hh:vs.length=1 then vs[0] else .tuple vs.toArray)/\∀ e xs,Ii ps≠.osl e xs:=by
 match ps,vs,h with
 | [p],[v],h=>exact ⟨h.2 0 (by simp) (by simp),GU p (by simp)⟩
 | [],[],h=>exact ⟨.tup [] _ rfl (fun i h=>by simp at h),fun e xs=>by simp [Ii]⟩
 | p :: q :: r,[],h=>exact absurd h.1 (by simp)
 | p :: q :: r,[v],h=>exact absurd h.1 (by simp)
 | [],v :: vs,h=>exact absurd h.1 (by simp)
 | [p],[],h=>exact absurd h.1 (by simp)
 | [p],v :: u :: vs,h=>exact absurd h.1 (by simp)
 | p :: q :: r,v :: u :: vs,h=>
  refine ⟨?_,fun e xs=>by simp [Ii]⟩;rw [dif_neg (by simp)];exact .tup _ _ (by simp [h.1]) (fun i a b=>by have:=h.2 i a (by simpa using b);simpa using this)
theorem QZ (k i:Nat):(Aa2 k undef).getD i undef=undef:=by
 simp [Array.getD]
theorem CO.enter {bx:List PBox} (hh:CO C B T S M bx w) {args:List PV} {vs:List Value} (hr:Cd S M args vs) (GU:∀ p ∈ args,∀ e xs,p≠.osl e xs) {k:Nat} (hk:args.length<=k) :
 Sim C [] B T S M k ⟨args,bx⟩ { tmps:=vs.toArray++Aa2 (k - vs.toArray.size) undef,defers:=[] } w:=by
 have hl:=hr.1
 have get:∀ t,(vs.toArray++Aa2 (k - vs.toArray.size) undef).getD t undef=if h:t < vs.length then vs[t] else undef:=by
  intro t;rw [Aa4,Array.getElem?_append];split
  · rename_i ht
    simp at ht;rw [dif_pos ht];simp [ht]
  · rename_i ht
    simp at ht;rw [dif_neg (by omega),<- Aa4,QZ]
 have env:∀ t,(∃ h:t < args.length,getT args t=args[t])\/(args.length<=t/\getT args t=und):=by
  intro t;rcases Nat.lt_or_ge t args.length with h | h
  · exact .inl ⟨h,by simp [getT,h]⟩
  · exact .inr ⟨h,by simp [getT,h]⟩
 refine ⟨hh.holds,hh.glob,hh.gw,by simp;omega,rfl,fun t=>?_,hh.mlen,hh.boxes,hh.nodup,hh.mS,hh.mT,hh.hB,fun l e xs v hl=>?_,fun l l' e e' xs xs' v v' g hl D4 hv Pm=>?_⟩
 · rw [get]
   rcases env t with ⟨h,e⟩ | ⟨h,e⟩
   · rw [e,dif_pos (by omega)];exact hr.2 t h (by omega)
   · rw [e,dif_neg (by omega)];exact .und S M
 · cases l with
   | tmp t=>
    exfalso;obtain ⟨h1,_⟩:=hl;rcases env t with ⟨h,e'⟩ | ⟨h,e'⟩
    · simp only at h1
      rw [e'] at h1;exact GU _ (Aa8 h) e xs h1
    · simp only at h1
      rw [e'] at h1;simp [und] at h1
   | box id off=>exact hh.own (.box id off) e xs v hl
 · have notmp:∀ t e xs v,¬ LocAt ⟨args,bx⟩ M { tmps:=vs.toArray++Aa2 (k - vs.toArray.size) undef,defers:=[] } w (.tmp t) (.osl e xs) v:=by
    rintro t e xs v ⟨h1,_⟩
    rcases env t with ⟨h,e'⟩ | ⟨h,e'⟩
    · simp only at h1
      rw [e'] at h1;exact GU _ (Aa8 h) e xs h1
    · simp only at h1
      rw [e'] at h1;simp [und] at h1
   cases l with
   | tmp t=>exact absurd hl (notmp t e xs v)
   | box id off=>
    cases l' with
    | tmp t=>exact absurd D4 (notmp t e' xs' v')
    | box id' off'=>exact hh.apart (.box id off) (.box id' off') e e' xs xs' v v' g hl D4 hv Pm
def Tf (C:Cfg) (br:Bool) (n:Nat) (c:Code):Bool:=if br then Eg C n c else Fe C n c
def DY (C:Cfg) (br:Bool) (ev:Code->St->Option (Ex×St)):Prop:=
 ∀ (c:Code) (st:St) (ex:Ex) (st':St) (n:Nat),Tf C br n c=true->ev c st=some (ex,st') ->
  ∀ (B:Nat) (T:Nat->Prop) (S:AI) (M:List Nat) (D:List Deferred) (a:Act) (w:World) (Q:Exit->Act->World->Prop),Sim C D B T S M n st a w->Ends C D B T S M n w ex st' Q->c.wp C.P Q a w
theorem Q0 {br:Bool} {ev:Code->St->Option (Ex×St)} (Ih:DY C br ev) {f:FuncId} {fn:Func} {c:Code} (hf:C.P.funcs[f]?=some fn) (hb:fn.body=some c) (GI:Tf C br fn.ntmps c=true) (Gt:fn.name≠"runtime.NumGoroutine")
 {args:List PV} {bx:List PBox} {cr:CR} {bx':List PBox} (hlen:args.length<=fn.ntmps) (Bn:ni C fn (ev c ⟨args,bx⟩)=some (cr,bx')) :
 Fi C.P f/\((∀ p ∈ args,∀ t xs,p≠.osl t xs)->∀ (B:Nat) (T:Nat->Prop) (S:AI) (M:List Nat) (vs:List Value) (w:World),CO C B T S M bx w->Cd S M args vs ->
  Calls C.P f vs.toArray w fun e w'=>∃ S' M',CO C B T S' M' bx' w'/\Grows B T S w S' w'/\M <+: M'/\Outcome S' M' cr e):=by
 refine ⟨⟨fn,c,hf,by simpa using Gt,hb⟩,fun GU B T S M vs w hh DL=>?_⟩;refine calls_of_wp hf hb ?_;have Ie:=hh.enter DL GU hlen
 have fin:∀ (st':St) (ps:List PV),Cn C st' fn.results.toList=some ps->∀ S' M' a' w',Sim C [] B T S' M' fn.ntmps st' a' w'->Grows B T S w S' w'->M <+: M' ->
  a'.defers=[]/\∃ v,(results fn a'.tmps).run C.P w'=.ok v w'/\∃ S'' M'',CO C B T S'' M'' st'.bx w'/\Grows B T S w S'' w'/\M <+: M''/\Outcome S'' M'' (.ret (Ii ps)) (.returned v):=by
  intro st' ps rh S' M' a' w' hs hg Dw;obtain ⟨us,h1,h2,h3,h4⟩:=I3 hs _ ps rh;obtain ⟨h5,h6⟩:=UR h1 h3;exact ⟨hs.dfr,_,HF rfl h2 h4,S',M',hs.heapOnly,hg,Dw,h6,_,rfl,h5⟩
 unfold ni at Bn;split at Bn
 · rename_i v st' he
   injection Bn with Bn
   injection Bn with e1 e2
   subst e1;subst e2;refine Ih c ⟨args,bx⟩ _ st' fn.ntmps GI he B T S M [] _ w _ Ie ?_;intro S' M' a' w' x u e' _ hs hg Dw Zt hx;subst hx;exact ⟨hs.dfr,S',M',hs.heapOnly,hg,Dw,u,rfl,Zt⟩
 · cases Bn
 · rename_i ex st' hne1 hne2 he
   split at Bn
   · rename_i ps rh
     injection Bn with Bn
     injection Bn with e1 e2
     subst e1;subst e2;refine Ih c ⟨args,bx⟩ _ st' fn.ntmps GI he B T S M [] _ w _ Ie ?_;cases ex with
     | normal=>exact fun S' M' a' w' hs hg Dw=>fin st' ps rh S' M' a' w' hs hg Dw
     | ret=>exact fun S' M' a' w' hs hg Dw=>fin st' ps rh S' M' a' w' hs hg Dw
     | exit id=>exact absurd rfl (hne2 id)
     | pan v=>exact absurd rfl (hne1 v)
   · cases Bn
 · cases Bn
theorem XS {ev evb:Code->St->Option (Ex×St)} (hp:GP C) (Ih:DY C false ev) (ur:DY C true evb):DX C (GB C ev evb):=by
 intro f args bx cr bx' Bn;unfold GB at Bn;split at Bn
 · rename_i g hg
   split at Bn
   · rename_i Zr
     obtain ⟨r,hr,he⟩:=Aa1.1 Bn;injection he with e1 e2
     subst e1;subst e2;obtain ⟨hb,hs⟩:=hp f g hg;refine ⟨hb,fun GU B T S M vs w hh DL=>?_⟩;obtain ⟨Us,hs⟩:=hs args r hr;refine (hs S vs w hh.holds hh.glob (fun g cs hg=>(hh.gw g cs hg).2.2) (DL.ofPure [] Zr)).mono fun e w' ⟨S',hk,v,he,hv⟩=>?_;exact ⟨S',M,Sim.kept hh hk,hk.grows hh.hB,Aa0 _,Us,v,he,hv.mono (AI.le.refl _) (fun id b h=>by simp at h)⟩
   · cases Bn
 · split at Bn
   · cases Bn
   · rename_i fn hf
     split at Bn
     · cases Bn
     · rename_i c hb
       split at Bn
       · rename_i EA
         simp only [Aa9,decide_eq_true_eq,Be,bne_iff_ne,ne_eq] at EA;obtain ⟨⟨GI,Gt⟩,hlen⟩:=EA;exact Q0 Ih hf hb (by simpa [Tf] using GI) Gt hlen Bn
       · split at Bn
         · rename_i EA
           simp only [Aa9,decide_eq_true_eq,Jy,bne_iff_ne,ne_eq] at EA;obtain ⟨⟨GI,Gt⟩,hlen⟩:=EA;exact Q0 ur hf hb (by simpa [Tf] using GI) Gt hlen Bn
         · cases Bn
def Il (C:Cfg):Prop:=
 ∀ (f:FuncId) (k:Cat),C.cat f=some k->∀ (ev:Code->St->Option (Ex×St)),DY C false ev->∀ (args:List PV) (bx:List PBox) (cr:CR) (bx':List PBox),Et k ev args bx=some (cr,bx') ->
  Fi C.P f/\((∀ p ∈ args,∀ t xs,p≠.osl t xs)->∀ (B:Nat) (T:Nat->Prop) (S:AI) (M:List Nat) (vs:List Value) (w:World),CO C B T S M bx w->Cd S M args vs ->
   Calls C.P f vs.toArray w fun e w'=>∃ S' M',CO C B T S' M' bx' w'/\Grows B T S w S' w'/\M <+: M'/\Outcome S' M' cr e)
theorem nq {C:Cfg} (h:∀ f,C.cat f=none):Il C:=fun f k hk=>by rw [h f] at hk;cases hk
theorem O5 {ev evb:Code->St->Option (Ex×St)} (hh:G6 C) (hp:GP C) (OU:Il C) (Ih:DY C false ev) (ur:DY C true evb):DX C (En C ev evb):=by
 intro f args bx cr bx' Bn;unfold En at Bn;split at Bn
 · rename_i g hg
   obtain ⟨⟨p,v,b⟩,h1,h2⟩:=Aa1.1 Bn;injection h2 with e1 e2
   subst e1;subst e2;exact hh f g hg args bx p v b h1
 · split at Bn
   · rename_i k hk
     exact OU f k hk ev Ih args bx cr bx' Bn
   · exact XS hp Ih ur f args bx cr bx' Bn
theorem Z2 {br:Bool} {id:Nat} {ops:Array Oper} {draw:Bool} (h:Tf C br n (.region id ops draw)=true):dstOK n ops=true/\(draw=true->if br then CL C ops=true\/edgesOK ops=true else CL C ops=true):=by
 unfold Tf at h;cases br <;> simp [Fe,Eg] at h |-
 · refine ⟨h.1,fun hd=>?_⟩
   rcases h.2 with h2 | h2
   · rw [hd] at h2;cases h2
   · exact h2
 · refine ⟨h.1,fun hd=>?_⟩
   rcases h.2 with (h2 | h2) | h2
   · rw [hd] at h2;cases h2
   · exact .inl h2
   · exact .inr h2
theorem nr {br:Bool} {x y:Code} (h:Tf C br n (.seq x y)=true):Tf C br n x=true/\Tf C br n y=true:=by
 unfold Tf at *;cases br <;> simp [Fe,Eg] at h|-<;> exact h
theorem iB {br:Bool} {c:Operand} {x y:Code} (h:Tf C br n (.cond c x y)=true):Tf C br n x=true/\Tf C br n y=true:=by
 unfold Tf at *;cases br <;> simp [Fe,Eg] at h|-<;> exact h
theorem eL {br:Bool} {i:Nat} {x:Code} (h:Tf C br n (.block i x)=true):Tf C br n x=true:=by
 unfold Tf at *;cases br <;> simp [Fe,Eg] at h|-<;> exact h
theorem iC {br:Bool} {x:Code} (h:Tf C br n (.loop x)=true):Tf C br n x=true:=by
 unfold Tf at *;cases br <;> simp [Fe,Eg] at h|-<;> exact h
theorem F0 (hh:G6 C) (hp:GP C) (OU:Il C) (VG:UQ C) (D1:MD C):∀ k br,DY C br (BY C k br)
 | 0,br=>fun c st ex st' n _ he=>by simp [BY] at he
 | k+1,br=>by
  have ih:=F0 hh hp OU VG D1 k br;have ihc:=O5 hh hp OU (F0 hh hp OU VG D1 k false) (F0 hh hp OU VG D1 k true);intro c st ex st' n EA he B T S M D a w Q h hq;cases c with
  | skip=>
   simp only [BY,Option.some.injEq,Prod.mk.injEq] at he;obtain ⟨rfl,rfl⟩:=he;exact wp_skip (hq S M a w h (Grows.refl _ _ _ _) (Aa0 _))
  | label l=>
   simp only [BY,Option.some.injEq,Prod.mk.injEq] at he;obtain ⟨rfl,rfl⟩:=he;exact wp_label (hq S M a w h (Grows.refl _ _ _ _) (Aa0 _))
  | region id ops draw=>
   simp only [BY] at he;obtain ⟨S0,Uu⟩:=Z2 EA;cases draw with
   | false=>
    simp only [Bool.and_false,Aa7,if_false] at he;exact wp_region_list (CW ihc false ops ops.toList [] st S M a w (Eh S0) h (fun p hp=>by simp at hp) he hq)
   | true=>
    have Uu:=Uu rfl;cases br with
    | false=>
     simp only [Bool.false_and,Aa7,if_false] at he Uu;exact VG _ ihc id ops n ex st st' B T S M D a w Q S0 Uu he h hq
    | true=>
     simp only [Bool.and_self,if_true] at he Uu;unfold GY at he;split at he
     · rename_i Zu
       exact VG _ ihc id ops n ex st st' B T S M D a w Q S0 Zu he h hq
     · rename_i Zu
       exact D1 _ ihc id ops n ex st st' B T S M D a w Q S0 (Uu.resolve_left Zu) he h hq
  | seq x y=>
   simp only [BY] at he;have EA:=nr EA;refine wp_seq ?_;split at he
   · rename_i st1 h1
     refine ih x st _ st1 n EA.1 h1 B T S M D a w _ h ?_;exact fun S' M' a' w' hs hg Dw=>ih y st1 ex st' n EA.2 he B T S' M' D a' w' Q hs (hq.of_grows hg Dw)
   · rename_i Dz
     refine ih x st ex st' n EA.1 he B T S M D a w _ h ?_;cases ex with
     | normal=>exact absurd he (Dz st')
     | exit id=>exact hq
     | ret=>exact hq
     | pan v=>exact hq
  | cond c x y=>
   simp only [BY] at he;have EA:=iB EA;split at he
   · rename_i t ht
     have hx:=h.opd c;rw [ht] at hx;refine wp_cond hx.bool_inv ?_;refine ih _ st ex st' n ?_ he B T S M D a w Q h hq;cases t
     · exact EA.2
     · exact EA.1
   · cases he
  | block id b=>
   simp only [BY] at he;have EA:=eL EA;refine wp_block ?_;split at he
   · rename_i id' st1 h1
     refine ih b st _ st1 n EA h1 B T S M D a w _ h ?_;intro S' M' a' w' hs hg Dw;show (if id'=id then Q .normal a' w' else Q (.exit id') a' w');split at he
     · rename_i hid
       injection he with he
       injection he with e1 e2
       subst e1;subst e2;rw [if_pos hid];exact hq S' M' a' w' hs hg Dw
     · rename_i hid
       injection he with he
       injection he with e1 e2
       subst e1;subst e2;rw [if_neg hid];exact hq S' M' a' w' hs hg Dw
   · rename_i Dz
     refine ih b st ex st' n EA he B T S M D a w _ h ?_;cases ex with
     | normal=>exact hq
     | exit id=>exact absurd he (Dz id st')
     | ret=>exact hq
     | pan v=>exact hq
  | loop b=>
   have hok':=iC EA
   refine Pp (fun j a1 w1=>j<=k+1/\∃ st1 S1 M1,BY C j br (.loop b) st1=some (ex,st')/\Sim C D B T S1 M1 n st1 a1 w1/\Grows B T S w S1 w1/\M <+: M1)
    (fun a1 w1 ⟨_,st1,S1,M1,h1,_⟩=>by simp [BY] at h1) (fun j a1 w1 ⟨hj,st1,S1,M1,xR,ZF,pL,Xg⟩=>?_) (j:=k+1) ⟨Nat.le_refl _,st,S,M,he,h,Grows.refl _ _ _ _,Aa0 _⟩
   have ihj:=F0 hh hp OU VG D1 j br;simp only [BY] at xR;split at xR
   · rename_i st2 h2
     refine ihj b st1 _ st2 n hok' h2 B T S1 M1 D a1 w1 _ ZF ?_;exact fun S' M' a' w' hs hg Dw=>⟨by omega,st2,S',M',xR,hs,pL.trans hg,Xg.trans Dw⟩
   · rename_i Dz
     refine ihj b st1 ex st' n hok' xR B T S1 M1 D a1 w1 _ ZF ?_;have uj:=hq.of_grows pL Xg;cases ex with
     | normal=>exact absurd xR (Dz st')
     | exit id=>exact uj
     | ret=>exact uj
     | pan v=>exact uj
  | exit id=>
   simp only [BY,Option.some.injEq,Prod.mk.injEq] at he;obtain ⟨rfl,rfl⟩:=he;exact wp_exit (hq S M a w h (Grows.refl _ _ _ _) (Aa0 _))
  | ret=>
   simp only [BY,Option.some.injEq,Prod.mk.injEq] at he;obtain ⟨rfl,rfl⟩:=he;exact wp_ret (hq S M a w h (Grows.refl _ _ _ _) (Aa0 _))
  | rangeFunc f ps as b=>simp [BY] at he
  | scope b=>simp [BY] at he
  | goto l=>simp [BY] at he
  | refuse s=>simp [BY] at he
end
end Go.HH
