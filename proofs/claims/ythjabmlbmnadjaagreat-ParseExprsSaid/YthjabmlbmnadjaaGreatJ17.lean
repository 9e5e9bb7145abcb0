/-
  What the law needs, packed: Step8.
-/
import Derived.Test.YthjabmlbmnadjaaGreatJ16
open List renaming getElem?_take_of_lt->yW,getElem?_append_left->yX,prefix_refl->yY,mem_of_getElem?->yZ,getElem?_eq_some_iff->y3,mem_iff_getElem?->y4,mem_cons->y5,length_take->y6,getElem?_append_right->y7,mem_map->y8,getElem?_eq_none->y',mem_of_mem_take->za,getElem?_drop->zd,mem_filter->zf,mem_append->zg
open Bool renaming and_eq_true->y0
open Nat renaming lt_or_ge->y1,lt_of_lt_of_le->y2,le_trans->zh,le_refl->zi,lt_min->zj
open Go.World renaming cell?_of_block->y9
open Go.Oper renaming wp->ze
namespace Go.HH
open Go Go.RowKit
section
variable {C:Cfg} {D:List Deferred} {B:Nat} {T:Nat->Prop} {S:AY} {M:List Nat} {n:Nat} {st:St} {a:Act} {w:World}
theorem F6 (p:PV) (e:TypeId) (xs:List PV):p.shutV≠.osl e xs:=by cases p <;> simp [PV.shutV,PV.seal1]
theorem Sim.heapOnly (h:Sim C D B T S M n st a w):Du C B T S M st.bx w:=by
 refine ⟨h.holds,h.glob,h.gw,rfl,rfl,fun t=>?_,h.mlen,h.boxes,h.nodup,h.mS,h.mT,h.hB,fun l e xs v hl=>?_,fun l l' e e' xs xs' v v' g hl FU=>?_⟩
 · rw [F3];exact .und S M
 · cases l with
   | tmp t=>exact absurd hl.1 (by rw [F3];simp [und])
   | box id off=>exact h.own (.box id off) e xs v hl
 · cases l with
   | tmp t=>exact absurd hl.1 (by rw [F3];simp [und])
   | box id off=>
    cases l' with
    | tmp t=>exact absurd FU.1 (by rw [F3];simp [und])
    | box id' off'=>exact h.apart (.box id off) (.box id' off') e e' xs xs' v v' g hl FU
theorem Sim.apartStart (h:Sim C D B T S M n st a w):Du C w.heap.size (fun _=>False) S [] [] w:=by
 refine ⟨h.holds,h.glob,fun g cs hg=>⟨y2 (h.gw g cs hg).1 h.hB,fun e=>e,(h.gw g cs hg).2.2⟩,rfl,rfl,fun t=>?_,rfl,fun id bx hb=>by simp at hb,by simp,fun b hb=>by simp at hb,fun b hb=>by simp at hb,zi _,fun l e xs v hl=>?_,fun l l' e e' xs xs' v v' g hl FU=>?_⟩
 · rw [F3];exact .und S []
 · cases l with
   | tmp t=>exact absurd hl.1 (by rw [F3];simp [und])
   | box id off=>obtain ⟨cs,b,h1,_⟩:=hl;simp [Bg] at h1
 · cases l with
   | tmp t=>exact absurd hl.1 (by rw [F3];simp [und])
   | box id off=>obtain ⟨cs,b,h1,_⟩:=hl;simp [Bg] at h1
theorem Grows.kept {S':AY} {w':World} (h:Grows w.heap.size (fun _=>False) S w S' w') (hh:∀ b o v,S' b o=some v->w'.cell? ⟨b,o,none⟩=some v):Kept S w S' w':=
 ⟨h.os,h.tape,h.output,h.size,fun k hk=>h.block k hk (fun e=>e),h.store,fun k hk=>h.same k hk (fun e=>e),hh⟩
theorem CD.ofPure {S:AY} {M:List Nat} (M':List Nat) {ps:List PV} {vs:List Value} (h:CD S M ps vs) (hp:Aq ps=true):CD S M' ps vs:=
 ⟨h.1,fun i a b=>(h.2 i a b).ofPure M' (GA hp i a)⟩
theorem Iz (h:Sim C D B T S M n st a w) {f:Operand} {args:Array Operand} {argTypes:Array TypeId} {k:FuncId} {vs:List PV}
 (hc:L2 C st.env { callee:=.value f,args,argTypes }=some (k,vs)) (ty:TypeId) {fn:Func} {c:Code} (hf:C.P.funcs[k]?=some fn) (Hc:(fn.name == "runtime.NumGoroutine")=false) (hb:fn.body=some c) :
 ∃ us:List Value,CD S M vs us/\(∀ p ∈ vs,∀ e xs,p≠.osl e xs) /\
  (do let d <- resolve a.eval { callee:=.value f,args,argTypes } ty;invoke d.target d.args:Sem Next).run C.P w=.ok (.enter k us.toArray) w:=by
 unfold L2 at hc;simp only at hc;have hx:=h.opd f;split at hc
 · rename_i k' first captured vh
   rw [vh] at hx;obtain ⟨va,vc,hv,r1,r2⟩:=hx.fn_inv;injection hc with hc
   injection hc with h1 h2
   subst h1;subst h2;have sealMap:∀ {ps:List PV} {us:List Value},CD S M ps us->CD S M (ps.map PV.shutV) us:=fun hh=>⟨by simpa using hh.1,fun i a b=>by simpa using (hh.2 i (by simpa using a) b).shutV⟩;refine ⟨va.toList++args.toList.map a.eval++vc.toList,((sealMap r1).append (h.sealL args.toList)).append (sealMap r2),fun p hp e xs=>?_,?_⟩
   · rcases zg.1 hp with hp | hp
     · rcases zg.1 hp with hp | hp
       · obtain ⟨q,_,rfl⟩:=y8.1 hp;exact F6 q e xs
       · obtain ⟨q,_,rfl⟩:=y8.1 hp;exact F6 _ e xs
     · obtain ⟨q,_,rfl⟩:=y8.1 hp;exact F6 q e xs
   · simp only [resolve,hv,Deferred.ofValue,invoke,Sem.run_bind,Sem.run_pure,Result.andThen_ok]
     rw [Go.MuLone.run_callFunc_enter hf Hc hb]
     congr 2
     apply Array.ext';simp
 · cases hc
def Touch (st:St) (M:List Nat) (a:Act) (w:World) (b:Nat):Prop:=
 b ∈ M\/∃ id off e xs v,LocAt st M a w (.box id off) (.osl e xs) v/\v.ownBlock=some b
theorem Sim.touchT (h:Sim C D B T S M n st a w) {b:Nat} (hb:w.heap.size<=b\/Touch st M a w b):B<=b\/T b:=by
 rcases hb with hb | hb | ⟨id,off,e,xs,v,hl,hv⟩
 · have:=h.hB;exact .inl (by omega)
 · exact h.mT b hb
 · exact (h.own _ _ _ _ hl).2 b hv
theorem Sim.gwT (h:Sim C D B T S M n st a w) {g:Nat} {cs:List PV} (hg:C.glob g=some cs) (e:Touch st M a w g):False:=by
 obtain ⟨h1,h2,_⟩:=h.gw g cs hg;rcases h.touchT (.inr e) with h3 | h3
 · omega
 · exact h2 h3
theorem Sim.sharedStart (h:Sim C D B T S M n st a w):Du C w.heap.size (Touch st M a w) S M st.bx w:=by
 have h':=h.heapOnly;refine ⟨h'.holds,h'.glob,fun g cs hg=>⟨y2 (h.gw g cs hg).1 h.hB,fun e=>h.gwT hg e,(h.gw g cs hg).2.2⟩,h'.size,h'.dfr,h'.env,h'.mlen,h'.boxes,h'.nodup,h'.mS,fun b hb=>.inr (.inl hb),zi _,fun l e xs v hl=>⟨(h'.own l e xs v hl).1,fun g hg=>?_⟩,h'.apart⟩;cases l with
 | tmp t=>exact absurd hl.1 (by rw [F3];simp [und])
 | box id off=>exact .inr (.inr ⟨id,off,e,xs,v,hl,hg⟩)
theorem Sim.afterCall (h:Sim C D B T S M n st a w) {S':AY} {M':List Nat} {bx':List PBox} {w':World} (hh:Du C w.heap.size (Touch st M a w) S' M' bx' w')
 (hg:Grows w.heap.size (Touch st M a w) S w S' w') (hp:M <+: M'):Sim C D B T S' M' n ⟨st.env,bx'⟩ a w'/\Grows B T S w S' w':=by
 have hM:∀ (id b:Nat),M[id]?=some b->M'[id]?=some b:=GB hp
 -- a block that a temporary owns is not touched
 have free:∀ t e xs g,getT st.env t=.osl e xs->(a.tmps.getD t undef).ownBlock=some g->g < w.heap.size/\¬ Touch st M a w g:=by
  intro t e xs g he Fs;have hl:LocAt st M a w (.tmp t) (.osl e xs) (a.tmps.getD t undef):=⟨he,rfl⟩;obtain ⟨h1,h2⟩:=h.own _ _ _ _ hl;refine ⟨h1.lt Fs,?_⟩
  rintro (hm | ⟨id,off,e',xs',v,FU,hv⟩)
  · obtain ⟨i,vals,_,_,_,h3⟩:=h1
    exact (h3 g Fs).1 hm
  · have:=h.apart _ _ _ _ _ _ _ _ g hl FU Fs hv
    cases this
 have locB:∀ id off e xs v,LocAt ⟨st.env,bx'⟩ M' a w' (.box id off) (.osl e xs) v->LocAt ⟨[],bx'⟩ M' ⟨#[],[]⟩ w' (.box id off) (.osl e xs) v:=fun _ _ _ _ _ hl=>hl;refine ⟨⟨hh.holds,hh.glob,h.gw.keep (fun k hk VN=>hg.block k (y2 hk h.hB) (fun e=>by rcases h.touchT (.inr e) with h | h;omega;exact VN h)),h.size,h.dfr,fun t=>(h.env t).mono hg.store hM,hh.mlen,hh.boxes,hh.nodup,hh.mS,fun b hb=>h.touchT (hh.mT b hb),zh h.hB hg.size,fun l e xs v hl=>?_,fun l l' e e' xs xs' v v' g hl FU hv QD=>?_⟩,hg.os,hg.tape,hg.output,hg.size,fun k hk VN=>?_,hg.store,fun k hk VN=>?_⟩
 · cases l with
   | tmp t=>
    obtain ⟨h1,h2⟩:=hl;subst h2;obtain ⟨h3,h4⟩:=h.own (.tmp t) e xs _ ⟨h1,rfl⟩;refine ⟨?_,h4⟩
    obtain ⟨i,vals,hi,HC,hx,rQ⟩:=h3.kept (S':=S') (w':=w') (fun g Fs=>by
     obtain ⟨f1,f2⟩:=free t e xs g h1 Fs;exact ⟨hg.block g f1 f2,hg.same g f1 f2⟩)
    refine ⟨i,vals,hi,HC,hx,fun g Fs=>⟨fun hm=>?_,(rQ g Fs).2⟩⟩;obtain ⟨f1,f2⟩:=free t e xs g h1 Fs;rcases hh.mT g hm with h5 | h5
    · omega
    · exact f2 h5
   | box id off=>
    obtain ⟨h1,h2⟩:=hh.own _ _ _ _ (locB _ _ _ _ _ hl);exact ⟨h1,fun g Fs=>h.touchT (h2 g Fs)⟩
 · cases l with
   | tmp t=>
    obtain ⟨h1,h2⟩:=hl;subst h2;cases l' with
    | tmp t'=>
     obtain ⟨h3,h4⟩:=FU;subst h4;exact h.apart (.tmp t) (.tmp t') e e' xs xs' _ _ g ⟨h1,rfl⟩ ⟨h3,rfl⟩ hv QD
    | box id off=>
     exfalso;obtain ⟨f1,f2⟩:=free t e xs g h1 hv;rcases (hh.own _ _ _ _ (locB _ _ _ _ _ FU)).2 g QD with h5 | h5
     · omega
     · exact f2 h5
   | box id off=>
    cases l' with
    | tmp t=>
     exfalso;obtain ⟨h1,h2⟩:=FU;subst h2;obtain ⟨f1,f2⟩:=free t e' xs' g h1 QD;rcases (hh.own _ _ _ _ (locB _ _ _ _ _ hl)).2 g hv with h5 | h5
     · omega
     · exact f2 h5
    | box id' off'=>exact hh.apart _ _ _ _ _ _ _ _ g (locB _ _ _ _ _ hl) (locB _ _ _ _ _ FU) hv QD
 · have:=h.hB
   exact hg.block k (by omega) (fun ht=>by rcases h.touchT (.inr ht) with h5 | h5;omega;exact VN h5)
 · have:=h.hB
   exact hg.same k (by omega) (fun ht=>by rcases h.touchT (.inr ht) with h5 | h5;omega;exact VN h5)
theorem Du.trunc {T':Nat->Prop} {B':Nat} {S':AY} {M':List Nat} {bx':List PBox} {w':World} (hh:Du C B' T' S' M' bx' w') (hp:M <+: M') (hu:((bx'.take M.length).all (·.under M.length))=true) :
 Du C B' T' S' M (bx'.take M.length) w':=by
 have hlen:M.length<=bx'.length:=by rw [<- hh.mlen];exact hp.length_le
 have back:∀ id b:Nat,id < M.length->M'[id]?=some b->M[id]?=some b:=by
  intro id b Ad hb;obtain ⟨t,rfl⟩:=hp;rw [yX Ad] at hb;exact hb
 have Dz:∀ id cs,Bg (bx'.take M.length) id=some cs->Bg bx' id=some cs/\id < M.length:=by
  intro id cs hc;have Bq:=Iy hc;simp only [y6] at Bq;have Bq:=zj.1 Bq;refine ⟨?_,Bq.1⟩;unfold Bg at hc |-;rw [yW Bq.1] at hc;exact hc
 have loc:∀ l e xs v,LocAt ⟨[],bx'.take M.length⟩ M ⟨#[],[]⟩ w' l (.osl e xs) v->LocAt ⟨[],bx'⟩ M' ⟨#[],[]⟩ w' l (.osl e xs) v:=by
  intro l e xs v hl;cases l with
  | tmp t=>exact hl
  | box id off=>
   obtain ⟨cs,b,h1,h2,h3,h4⟩:=hl;exact ⟨cs,b,(Dz id cs h1).1,h2,GB hp id b h3,h4⟩
 refine ⟨hh.holds,hh.glob,hh.gw,rfl,rfl,fun t=>by rw [F3];exact .und S' M,by simp;omega,fun id x hx=>?_,hp.sublist.nodup hh.nodup,fun b hb=>hh.mS b (hp.subset hb),fun b hb=>hh.mT b (hp.subset hb),hh.hB,fun l e xs v hl=>?_,fun l l' e e' xs xs' v v' g hl FU=>hh.apart _ _ _ _ _ _ _ _ g (loc _ _ _ _ hl) (loc _ _ _ _ FU)⟩
 · have Ad:id < M.length:=by
    rcases y1 id M.length with h | h
    · exact h
    · rw [y' (by simp;omega)] at hx;cases hx
   have ix:x.under M.length=true:=by rw [List.all_eq_true] at hu;exact hu x (yZ hx)
   rw [yW Ad] at hx;obtain ⟨b,h1,h2⟩:=hh.boxes id x hx;refine ⟨b,back id b Ad h1,?_⟩;cases h2 with
   | cells te cs b c h3 l h4 hr=>exact .cells te cs b c h3 l h4 (fun i hi Ey=>(hr i hi Ey).ofUnder M.length M back (EY ix i hi))
   | iter s pos b h3=>exact .iter s pos b h3
 · obtain ⟨h1,h2⟩:=hh.own _ _ _ _ (loc l e xs v hl)
   obtain ⟨i,vals,hi,HC,hx,hg⟩:=h1;exact ⟨⟨i,vals,hi,HC,hx,fun g e=>⟨fun hm=>(hg g e).1 (hp.subset hm),(hg g e).2⟩⟩,h2⟩
theorem Pk:∀ {al:List (Nat×Loc)} {m:Nat},Dl al=some m->(∀ p ∈ al,∀ id off,p.2=.box id off->m<=id)/\∃ p ∈ al,∃ off,p.2=.box m off
 | [],m,h=>by simp [Dl] at h
 | (d,.tmp t) :: r,m,h=>by
  unfold Dl at h;obtain ⟨h1,p,h2,off,h3⟩:=Pk h;refine ⟨fun q hq id o e=>?_,p,by simp [h2],off,h3⟩;rcases y5.1 hq with rfl | hq
  · cases e
  · exact h1 q hq id o e
 | (d,.box i o) :: r,m,h=>by
  unfold Dl at h;split at h
  · rename_i k hk
    obtain ⟨h1,p,h2,off,h3⟩:=Pk hk;injection h with h
    refine ⟨fun q hq id o' e=>?_,?_⟩
    · rcases y5.1 hq with rfl | hq
      · injection e with e1 e2;omega
      · have:=h1 q hq id o' e;omega
    · rcases Nat.le_total i k with hle | hle
      · exact ⟨(d,.box i o),by simp,o,by rw [<- h,Nat.min_eq_left hle]⟩
      · exact ⟨p,by simp [h2],off,by rw [<- h,Nat.min_eq_right hle];exact h3⟩
  · rename_i hk
    injection h with h
    subst h
    have none':∀ {al:List (Nat×Loc)},Dl al=none->∀ p ∈ al,∀ id off,p.2≠.box id off:=by
     intro al
     induction al with
     | nil=>intro _ p hp;simp at hp
     | cons q r ih=>
      intro hn p hp id off;obtain ⟨d',l⟩:=q;cases l with
      | tmp t=>
       unfold Dl at hn;rcases y5.1 hp with rfl | hp
       · intro e;cases e
       · exact ih hn p hp id off
      | box i' o'=>unfold Dl at hn;split at hn <;> cases hn
    refine ⟨fun q hq id o' e=>?_,(d,.box i o),by simp,o,rfl⟩;rcases y5.1 hq with rfl | hq
    · injection e with e1 e2;omega
    · exact absurd e (none' hk q hq id o')
theorem Sim.afterCut (h:Sim C D B T S M n st a w) {m:Nat} (hm:m<=M.length) {S':AY} {bx1:List PBox} {w':World} (Fq:Du C B T S (M.take m) (st.bx.take m) w) (hh:Du C w.heap.size (Touch ⟨[],st.bx.take m⟩ (M.take m) ⟨#[],[]⟩ w) S' (M.take m) bx1 w')
 (hg:Grows w.heap.size (Touch ⟨[],st.bx.take m⟩ (M.take m) ⟨#[],[]⟩ w) S w S' w') :
 Sim C D B T S' M n ⟨st.env,bx1++st.bx.drop m⟩ a w'/\Grows B T S w S' w'/\∀ id b,m<=id->M[id]?=some b->w'.heap[b]?=w.heap[b]?:=by
 have hl:bx1.length=m:=by have:=hh.mlen;simp only [y6] at this;omega
 have mB:=h.mlen
 have Dz:∀ id cs,Bg (st.bx.take m) id=some cs->Bg st.bx id=some cs/\id < m:=by
  intro id cs hc;have Bq:=Iy hc;simp only [y6] at Bq;have Bq:=zj.1 Bq;refine ⟨?_,Bq.1⟩;unfold Bg at hc |-;rw [yW Bq.1] at hc;exact hc
 have xM:∀ id b,(M.take m)[id]?=some b->M[id]?=some b/\id < m:=by
  intro id b hb
  have Bq:id < m:=by
   rcases y1 id m with h1 | h1
   · exact h1
   · rw [y' (by simp;omega)] at hb;cases hb
  rw [yW Bq] at hb;exact ⟨hb,Bq⟩
 have locP:∀ id off p v,LocAt ⟨[],st.bx.take m⟩ (M.take m) ⟨#[],[]⟩ w (.box id off) p v->LocAt st M a w (.box id off) p v/\id < m:=by
  rintro id off p v ⟨cs,b,h1,h2,h3,h4⟩
  exact ⟨⟨cs,b,(Dz id cs h1).1,h2,(xM id b h3).1,h4⟩,(Dz id cs h1).2⟩
 -- what a call may touch that knows the first boxes alone
 have tk:∀ b,Touch ⟨[],st.bx.take m⟩ (M.take m) ⟨#[],[]⟩ w b->Touch st M a w b:=by
  rintro b (hb | ⟨id,off,e,xs,v,Io,hv⟩)
  · exact .inl (za hb)
  · exact .inr ⟨id,off,e,xs,v,(locP _ _ _ _ Io).1,hv⟩
 have tkT:∀ b,(w.heap.size<=b\/Touch ⟨[],st.bx.take m⟩ (M.take m) ⟨#[],[]⟩ w b)->B<=b\/T b:=fun b hb=>h.touchT (hb.imp_right (tk b))
 -- the other boxes
 have freeM:∀ id b,m<=id->M[id]?=some b->b < w.heap.size/\¬ Touch ⟨[],st.bx.take m⟩ (M.take m) ⟨#[],[]⟩ w b:=by
  intro id b Ad hb;refine ⟨h.mlt (yZ hb),?_⟩
  rintro (Im | ⟨id',off,e,xs,v,Io,hv⟩)
  · obtain ⟨j,hj⟩:=y4.1 Im
    obtain ⟨h1,h2⟩:=xM j b hj;have Uc:=(y3.1 h1);have oW:=(y3.1 hb);obtain ⟨l1,e1⟩:=Uc;obtain ⟨l2,e2⟩:=oW;have:=(List.getElem_inj (h₀:=l1) (h₁:=l2) h.nodup).1 (e1.trans e2.symm);omega
  · obtain ⟨⟨_,_,_,_,_,h3⟩,_⟩:=h.own _ _ _ _ (locP _ _ _ _ Io).1
    exact (h3 b hv).1 (yZ hb)
 have oldM:∀ id b,m<=id->M[id]?=some b->w'.heap[b]?=w.heap[b]?:=fun id b Ad hb=>hg.block b (freeM id b Ad hb).1 (freeM id b Ad hb).2
 -- the places that the call did not know
 have old:∀ l e xs v,(∀ id off,l=.box id off->m<=id)->LocAt ⟨st.env,bx1++st.bx.drop m⟩ M a w' l (.osl e xs) v ->
  LocAt st M a w l (.osl e xs) v/\∀ g,v.ownBlock=some g->g < w.heap.size/\¬ Touch ⟨[],st.bx.take m⟩ (M.take m) ⟨#[],[]⟩ w g:=by
  intro l e xs v Ad Io
  have h0:LocAt st M a w l (.osl e xs) v:=by
   cases l with
   | tmp t=>exact Io
   | box id off=>
    have Ad:=Ad id off rfl;obtain ⟨cs,b,h1,h2,h3,h4⟩:=Io;refine ⟨cs,b,?_,h2,h3,?_⟩
    · unfold Bg at h1 |-
      simp only at h1;rw [y7 (by omega),zd,hl,show m+(id - m)=id from by omega] at h1;exact h1
    · rw [y9 (a:=⟨b,off,none⟩) (oldM id b Ad h3)] at h4
      exact h4
  refine ⟨h0,fun g Fs=>?_⟩;obtain ⟨h1,h2⟩:=h.own _ _ _ _ h0;refine ⟨h1.lt Fs,?_⟩
  rintro (Im | ⟨id',off',e',xs',v',FU,QD⟩)
  · obtain ⟨i,vals,_,_,_,h3⟩:=h1
    exact (h3 g Fs).1 (za Im)
  · obtain ⟨q1,q2⟩:=locP _ _ _ _ FU
    have:=h.apart _ _ _ _ _ _ _ _ g h0 q1 Fs QD;have:=Ad id' off' this;omega
 have new:∀ id off e xs v,id < m->LocAt ⟨st.env,bx1++st.bx.drop m⟩ M a w' (.box id off) (.osl e xs) v->LocAt ⟨[],bx1⟩ (M.take m) ⟨#[],[]⟩ w' (.box id off) (.osl e xs) v:=by
  rintro id off e xs v Ad ⟨cs,b,h1,h2,h3,h4⟩
  refine ⟨cs,b,?_,h2,?_,h4⟩
  · unfold Bg at h1 |-
    simp only at h1 |-;rw [yX (by omega)] at h1;exact h1
  · rw [yW Ad];exact h3
 have hmono:∀ id b:Nat,(M.take m)[id]?=some b->M[id]?=some b:=fun id b hb=>(xM id b hb).1;refine ⟨⟨hh.holds,hh.glob,h.gw.keep (fun k hk VN=>hg.block k (y2 hk h.hB) (fun e=>by rcases tkT k (.inr e) with h | h;omega;exact VN h)),h.size,h.dfr,fun t=>(h.env t).mono hg.store (fun _ _ x=>x),?_,fun id bx hb=>?_,h.nodup,fun b hb o=>?_,h.mT,zh h.hB hg.size,fun l e xs v Io=>?_,fun l l' e e' xs xs' v v' g Io fA hv QD=>?_⟩,⟨hg.os,hg.tape,hg.output,hg.size,fun k hk VN=>?_,hg.store,fun k hk VN=>?_⟩,oldM⟩
 · simp only [List.length_append,List.length_drop];omega
 · simp only at hb
   rcases y1 id m with Ad | Ad
   · rw [yX (by omega)] at hb
     obtain ⟨b,h1,h2⟩:=hh.boxes id bx hb;refine ⟨b,hmono id b h1,?_⟩;cases h2 with
     | cells te cs b c h3 l h4 hr=>exact .cells te cs b c h3 l h4 (fun i hi Ey=>(hr i hi Ey).mono (AY.le.refl _) hmono)
     | iter s pos b h3=>exact .iter s pos b h3
   · rw [y7 (by omega),zd,hl,show m+(id - m)=id from by omega] at hb
     obtain ⟨b,h1,h2⟩:=h.boxes id bx hb;exact ⟨b,h1,h2.kept hg.store (oldM id b Ad h1)⟩
 · obtain ⟨id,Ad⟩:=y4.1 hb
   rcases y1 id m with Bq | Mg
   · exact hh.mS b (yZ (by rw [yW Bq];exact Ad)) o
   · obtain ⟨f1,f2⟩:=freeM id b Mg Ad
     rw [hg.same b f1 f2];exact h.mS b hb o
 · by_cases hc:∀ id off,l=.box id off->m<=id
   · obtain ⟨h0,f⟩:=old l e xs v hc Io
     obtain ⟨h1,h2⟩:=h.own _ _ _ _ h0;exact ⟨h1.kept fun g Fs=>⟨hg.block g (f g Fs).1 (f g Fs).2,hg.same g (f g Fs).1 (f g Fs).2⟩,h2⟩
   · cases l with
     | tmp t=>exact absurd (fun id off e=>by cases e) hc
     | box id off=>
      have Ad:id < m:=by
       rcases y1 id m with h1 | h1
       · exact h1
       · exact absurd (fun id' off' e=>by injection e with e1 e2;omega) hc
      obtain ⟨h1,h2⟩:=hh.own _ _ _ _ (new id off e xs v Ad Io);refine ⟨?_,fun g Fs=>tkT g (h2 g Fs)⟩;obtain ⟨i,vals,hi,HC,hx,rQ⟩:=h1;refine ⟨i,vals,hi,HC,hx,fun g Fs=>⟨fun N2=>?_,(rQ g Fs).2⟩⟩;obtain ⟨j,hj⟩:=y4.1 N2;rcases y1 j m with Bq | Mg
      · exact (rQ g Fs).1 (yZ (by rw [yW Bq];exact hj))
      · obtain ⟨f1,f2⟩:=freeM j g Mg hj
        rcases h2 g Fs with h5 | h5
        · omega
        · exact f2 h5
 · have cross:∀ {l1 l2:Loc} {e1 e2:TypeId} {xs1 xs2:List PV} {v1 v2:Value},(∀ id off,l1=.box id off->m<=id)->(∃ id off,l2=.box id off/\id < m)->LocAt ⟨st.env,bx1++st.bx.drop m⟩ M a w' l1 (.osl e1 xs1) v1 ->
    LocAt ⟨st.env,bx1++st.bx.drop m⟩ M a w' l2 (.osl e2 xs2) v2->v1.ownBlock=some g->v2.ownBlock=some g->False:=by
    rintro l1 l2 e1 e2 xs1 xs2 v1 v2 c1 ⟨id,off,rfl,Ad⟩ k1 k2 g1 g2
    obtain ⟨f1,f2⟩:=(old l1 e1 xs1 v1 c1 k1).2 g g1;rcases (hh.own _ _ _ _ (new id off e2 xs2 v2 Ad k2)).2 g g2 with h5 | h5
    · omega
    · exact f2 h5
   have dec:∀ l:Loc,(∀ id off,l=.box id off->m<=id)\/∃ id off,l=.box id off/\id < m:=by
    intro l;cases l with
    | tmp t=>exact .inl (fun _ _ e=>by cases e)
    | box id off=>
     rcases y1 id m with h1 | h1
     · exact .inr ⟨id,off,rfl,h1⟩
     · exact .inl (fun id' off' e=>by injection e with e1 e2;omega)
   rcases dec l with c | c <;> rcases dec l' with c' | c'
   · exact h.apart _ _ _ _ _ _ _ _ g (old l e xs v c Io).1 (old l' e' xs' v' c' fA).1 hv QD
   · exact (cross c c' Io fA hv QD).elim
   · exact (cross c' c fA Io QD hv).elim
   · obtain ⟨id,off,rfl,Ad⟩:=c
     obtain ⟨id',off',rfl,rK⟩:=c';exact hh.apart _ _ _ _ _ _ _ _ g (new id off e xs v Ad Io) (new id' off' e' xs' v' rK fA) hv QD
 · have:=h.hB
   exact hg.block k (by omega) (fun ht=>by rcases tkT k (.inr ht) with h5 | h5;omega;exact VN h5)
 · have:=h.hB
   exact hg.same k (by omega) (fun ht=>by rcases tkT k (.inr ht) with h5 | h5;omega;exact VN h5)
theorem Y0 (h:Sim C D B T S M n st a w) {o:Oper} (hd:∀ k,o.dst=some k->k < n) {al:List (Nat×Loc)} (Hb:Hu M a w al) {call:C4} (BD:EH C call)
 {f:Operand} {args:Array Operand} {argTypes:Array TypeId} (ho:o.op=.call { callee:=.value f,args,argTypes }) {k:FuncId} {vs:List PV} (QE:L2 C st.env { callee:=.value f,args,argTypes }=some (k,vs))
 {m:Nat} (Cz:cutAt C k vs al st.bx=some m) {cr:CR} {bx:List PBox} (Fk:Ak C call k vs (st.bx.take m)=some (cr,bx)) (hlen:bx.length=m) (hu:cr.under m=true) (hbu:bx.all (·.under m)=true)
 (K:Act->World->Prop) (Q:Exit->Act->World->Prop)
 (hK:match cr with
  | .ret v=>∀ S' M' a' w',Sim C D B T S' M' n ((St.mk st.env (bx++st.bx.drop m)).put o.dst v) a' w'->Grows B T S w S' w'->M <+: M'->Hu M' a' w' (Ap al o.dst)->K a' w'
  | .pan v=>∀ S' M' a' w' x u,Sim C D B T S' M' n ⟨st.env,bx++st.bx.drop m⟩ a' w'->Grows B T S w S' w'->M <+: M'->Rep S' M' v u->x=[{ v:=u,recovered:=false }]->Q (.panic x) a' w'):o.wp C.P a w K Q:=by
 unfold cutAt at Cz;split at Cz
 · cases Cz
 rename_i m' hbm;split at Cz
 rotate_left
 · cases Cz
 rename_i Hr;injection Cz with Cz
 subst Cz;simp only [y0] at Hr;obtain ⟨O',xN,vj⟩:=Hr;obtain ⟨hmin,p0,oX,off0,hp0e⟩:=Pk hbm
 have hml:m' < M.length:=by
  have:=Hb p0 oX;rw [hp0e] at this;obtain ⟨b,hb,_⟩:=this;exact (y3.1 hb).1
 have mB:=h.mlen;have dJ:(M.take m').length=m':=by simp;omega
 have htb:(st.bx.take m').length=m':=by simp;omega
 have Fq:Du C B T S (M.take m') (st.bx.take m') w:=by
  have:=Du.trunc (M:=M.take m') h.heapOnly (List.take_prefix m' M) (by rw [dJ];exact vj);rw [dJ] at this;exact this
 have hco2:∃ bx2,call k vs (st.bx.take m')=some (cr,bx2)/\bx=bx2.take m'/\((bx2.take m').all (·.under m'))=true:=by
  unfold Ak at Fk;rw [if_pos O'] at Fk;split at Fk
  · rename_i r1 bx2 K5
    injection Fk with Fk
    injection Fk with e1 e2
    subst e1;rw [htb] at e2;refine ⟨bx2,K5,?_⟩;unfold Fl at e2;split at e2
    · rename_i hc
      simp only [y0] at hc;exact ⟨e2.symm,hc.2⟩
    · subst e2
      have:bx2.take m'=bx2:=List.take_of_length_le (by omega);rw [this];exact ⟨rfl,hbu⟩
  · cases Fk
 obtain ⟨bx2,K5,rfl,FA⟩:=hco2;obtain ⟨⟨fn,c,hf,Hc,hb⟩,hs⟩:=BD k vs _ cr bx2 K5;obtain ⟨us,mC,HM,CA⟩:=Iz h QE o.type hf Hc hb;have back:∀ id b:Nat,id < m'->M[id]?=some b->(M.take m')[id]?=some b:=fun id b Ad hb=>by rw [yW Ad];exact hb
 have hus':CD S (M.take m') vs us:=⟨mC.1,fun i x y=>(mC.2 i x y).ofUnder m' _ back (EY xN i x)⟩;unfold ze;rw [execOp,ho,CA];refine (hs HM _ _ _ _ us w Fq.sharedStart hus').mono fun e w' ⟨S',M',hh,hg,hp,aX⟩=>?_;have fB:=Du.trunc hh hp (by rw [dJ];exact FA);rw [dJ] at fB;obtain ⟨h1,h2,h3⟩:=h.afterCut (Nat.le_of_lt hml) Fq fB hg
 have bk:∀ id b:Nat,id < m'->M'[id]?=some b->M[id]?=some b:=fun id b Ad hb=>by
  obtain ⟨t,rfl⟩:=hp;rw [yX (by rw [dJ];exact Ad),yW Ad] at hb;exact hb
 cases cr with
 | ret v=>
  obtain ⟨VO,u,rfl,Ez⟩:=aX;show K (a.put o.dst u) w';have aY:=Ez.ofUnder m' M bk hu;refine hK S' M _ w' (h1.put o.dst hd aY VO) h2 (yY _) ?_;intro p iQ;obtain ⟨m1,m2⟩:=FJ iQ;have hc:=Hb p m1;have hmp:=hmin p m1;obtain ⟨d',l⟩:=p;cases l with
  | tmp t=>
   simp only [JM] at hc |-;rw [Dv h.size hd _ (fun k hk=>(m2 k hk).1),Dv h.size hd _ (fun k hk=>by simpa using (m2 k hk).2)];exact hc
  | box id off=>
   obtain ⟨b,e1,e2⟩:=hc;refine ⟨b,e1,?_⟩;rw [Dv h.size hd _ (fun k hk=>(m2 k hk).1),y9 (a:=⟨b,off,none⟩) (h3 id b (hmp id off rfl) e1)];exact e2
 | pan v=>
  obtain ⟨u,rfl,Ez⟩:=aX;exact hK S' M a w' _ u h1 h2 (yY _) (Ez.ofUnder m' M bk hu) rfl
theorem fP (h:Sim C D B T S M n st a w) {o:Oper} (hd:∀ k,o.dst=some k->k < n) {al:List (Nat×Loc)} (Hb:Hu M a w al) {call:C4} (BD:EH C call)
 {f:Operand} {args:Array Operand} {argTypes:Array TypeId} (ho:o.op=.call { callee:=.value f,args,argTypes }) (draw:Bool) {r:OpR} (hr:BR C call draw al o st=some r) :
 F5 C D B T S M n a w o r:=by
 intro K Q hK;unfold BR at hr;rw [ho] at hr;simp only at hr;split at hr
 · rename_i k vs QE
   by_cases KE:((draw && WQ f) && (C.heap k || !(Aq vs)))=true
   · rw [if_pos KE] at hr;cases hr
   rw [if_neg KE] at hr;split at hr
   · rename_i m Cz
     have Cz:cutAt C k vs al st.bx=some m:=by
      unfold JJ at Cz;split at Cz
      · exact Cz
      · cases Cz
     split at hr
     · rename_i v bx Fk
       split at hr
       · rename_i hc
         simp only [y0,decide_eq_true_eq] at hc;injection hr with hr
         subst hr;exact Y0 h hd Hb BD ho QE Cz Fk hc.1 hc.2.1 hc.2.2 K Q hK
       · cases hr
     · rename_i v bx Fk
       split at hr
       · rename_i hc
         simp only [y0,decide_eq_true_eq] at hc;injection hr with hr
         subst hr;exact Y0 h hd Hb BD ho QE Cz Fk hc.1 hc.2.1 hc.2.2 K Q hK
       · cases hr
     · cases hr
   rename_i Cz;clear Cz;unfold Ak at hr;split at hr
   · rename_i v bx Fk
     split at Fk
     · -- it may know the boxes
       rename_i O';split at Fk
       · rename_i r1 bx1 K5
         injection Fk with Fk
         injection Fk with e1 e2
         subst e1;subst e2;injection hr with hr
         subst hr;obtain ⟨⟨fn,c,hf,Hc,hb⟩,hs⟩:=BD k vs st.bx (.ret v) bx1 K5;obtain ⟨us,mC,HM,CA⟩:=Iz h QE o.type hf Hc hb;unfold ze;rw [execOp,ho,CA];refine (hs HM _ _ _ _ us w h.sharedStart mC).mono fun e w' ⟨S',M',hh,hg,hp,aX⟩=>?_;obtain ⟨VO,u,rfl,Ez⟩:=aX;show K (a.put o.dst u) w';simp only [] at hK;unfold Fl at hK;split at hK
         · rename_i hu
           simp only [y0,CR.under] at hu;rw [<- h.mlen] at hu;have fB:=Du.trunc hh hp hu.2;rw [h.mlen] at fB;obtain ⟨h1,h2⟩:=h.afterCall fB hg (yY M)
           have aY:=Ez.ofUnder M.length M (fun id b Ad hb=>by
            obtain ⟨t,rfl⟩:=hp;rw [yX Ad] at hb;exact hb) hu.1
           refine hK S' M _ w' (h1.put o.dst hd aY VO) h2 (yY _) ?_;unfold Eo;rw [if_pos O'];intro p iQ;obtain ⟨m1,m2⟩:=FJ iQ;simp only [zf] at m1;obtain ⟨m3,m4⟩:=m1;have hc:=Hb p m3;obtain ⟨d',l⟩:=p;cases l with
           | tmp t=>
            simp only [JM] at hc |-;rw [Dv h.size hd _ (fun k hk=>(m2 k hk).1),Dv h.size hd _ (fun k hk=>by simpa using (m2 k hk).2)];exact hc
           | box id off=>simp at m4
         · obtain ⟨h1,h2⟩:=h.afterCall hh hg hp
           refine hK S' M' _ w' (h1.put o.dst hd Ez VO) h2 hp ?_;unfold Eo;rw [if_pos O'];intro p iQ;obtain ⟨m1,m2⟩:=FJ iQ;simp only [zf] at m1;obtain ⟨m3,m4⟩:=m1;have hc:=Hb p m3;obtain ⟨d',l⟩:=p;cases l with
           | tmp t=>
            simp only [JM] at hc |-;rw [Dv h.size hd _ (fun k hk=>(m2 k hk).1),Dv h.size hd _ (fun k hk=>by simpa using (m2 k hk).2)];exact hc
           | box id off=>simp at m4
       · cases Fk
     · rename_i O'
       split at Fk
       · rename_i r1 b0 K5
         split at Fk
         · rename_i aZ
           injection Fk with Fk
           injection Fk with e1 e2
           injection e1 with e1
           subst e1;subst e2;injection hr with hr
           subst hr;obtain ⟨⟨fn,c,hf,Hc,hb⟩,hs⟩:=BD k vs [] (.ret r1) b0 K5;obtain ⟨us,mC,HM,CA⟩:=Iz h QE o.type hf Hc hb;unfold ze;rw [execOp,ho,CA]
           have hpv:Aq vs=true:=by
            simp only [Bool.or_eq_true,Bool.not_eq_true',not_or] at O';simpa using O'.2
           refine (hs HM _ _ _ _ us w h.apartStart (mC.ofPure [] hpv)).mono fun e w' ⟨S',M',hh,hg,hp,aX⟩=>?_;obtain ⟨VO,u,rfl,Ez⟩:=aX;show K (a.put o.dst u) w';have hk:=Grows.kept hg hh.holds;refine hK S' M _ w' ((h.kept hk).put o.dst hd (Ez.ofPure M aZ) VO) (hk.grows h.hB) (yY _) ?_;unfold Eo;rw [if_neg O'];exact Hb.put h.size hd _ (fun _ _ x=>x) (fun b hb=>hk.block b (h.mlt hb))
         · cases Fk
       · cases Fk
   · rename_i v bx Fk
     split at Fk
     · rename_i O'
       split at Fk
       · rename_i r1 bx1 K5
         injection Fk with Fk
         injection Fk with e1 e2
         subst e1;subst e2;injection hr with hr
         subst hr;obtain ⟨⟨fn,c,hf,Hc,hb⟩,hs⟩:=BD k vs st.bx (.pan v) bx1 K5;obtain ⟨us,mC,HM,CA⟩:=Iz h QE o.type hf Hc hb;unfold ze;rw [execOp,ho,CA];refine (hs HM _ _ _ _ us w h.sharedStart mC).mono fun e w' ⟨S',M',hh,hg,hp,aX⟩=>?_;obtain ⟨u,rfl,Ez⟩:=aX;show Q (.panic [{ v:=u,recovered:=false }]) a w';simp only [] at hK;unfold Fl at hK
         · split at hK
           · rename_i hu
             simp only [y0,CR.under] at hu;rw [<- h.mlen] at hu;have fB:=Du.trunc hh hp hu.2;obtain ⟨h1,h2⟩:=h.afterCall fB hg (yY M)
             have aY:=Ez.ofUnder M.length M (fun id b Ad hb=>by
              obtain ⟨t,rfl⟩:=hp;rw [yX Ad] at hb;exact hb) hu.1
             exact hK S' M a w' _ u (by rw [<- h.mlen];exact h1) h2 (yY _) aY rfl
           · obtain ⟨h1,h2⟩:=h.afterCall hh hg hp
             exact hK S' M' a w' _ u h1 h2 hp Ez rfl
       · cases Fk
     · split at Fk
       · split at Fk
         · injection Fk with Fk;injection Fk with e1 e2;cases e1
         · cases Fk
       · cases Fk
   · cases hr
 · cases hr
end
end Go.HH
