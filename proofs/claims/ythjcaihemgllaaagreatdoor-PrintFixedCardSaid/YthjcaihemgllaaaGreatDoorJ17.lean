/-
  What the law needs, packed: Step8.
-/
import Derived.Test.YthjcaihemgllaaaGreatDoorJ16
open List renaming getElem?_take_of_lt->Aa0,getElem?_append_left->Aa1,prefix_refl->Aa2,mem_of_getElem?->Aa3,getElem?_eq_some_iff->Aa7,mem_iff_getElem?->Aa8,mem_cons->Aa9,length_take->Aaa,getElem?_append_right->Aab,mem_map->Aac,getElem?_eq_none->Aae,mem_of_mem_take->Aaf,getElem?_drop->Aag,mem_filter->Aai,mem_append->Aaj
open Bool renaming and_eq_true->Aa4
open Nat renaming lt_or_ge->Aa5,lt_of_lt_of_le->Aa6,le_trans->Aak,le_refl->Aal
open Go.World renaming cell?_of_block->Aad
open Go.Oper renaming wp->Aah
namespace Go.HH
open Go Go.RowKit
section
variable {C:Cfg} {D:List Deferred} {B:Nat} {T:Nat->Prop} {S:AI} {M:List Nat} {n:Nat} {st:St} {a:Act} {w:World}
theorem Fk (p:PV) (e:TypeId) (xs:List PV):p.shutV≠.osl e xs:=by cases p <;> simp [PV.shutV,PV.seal1]
theorem Sim.heapOnly (h:Sim C D B T S M n st a w):CO C B T S M st.bx w:=by
 refine ⟨h.holds,h.glob,h.gw,rfl,rfl,fun t=>?_,h.mlen,h.boxes,h.nodup,h.mS,h.mT,h.hB,fun l e xs v hl=>?_,fun l l' e e' xs xs' v v' g hl D4=>?_⟩
 · rw [Fh];exact .und S M
 · cases l with
   | tmp t=>exact absurd hl.1 (by rw [Fh];simp [und])
   | box id off=>exact h.own (.box id off) e xs v hl
 · cases l with
   | tmp t=>exact absurd hl.1 (by rw [Fh];simp [und])
   | box id off=>
    cases l' with
    | tmp t=>exact absurd D4.1 (by rw [Fh];simp [und])
    | box id' off'=>exact h.apart (.box id off) (.box id' off') e e' xs xs' v v' g hl D4
theorem Sim.apartStart (h:Sim C D B T S M n st a w):CO C w.heap.size (fun _=>False) S [] [] w:=by
 refine ⟨h.holds,h.glob,fun g cs hg=>⟨Aa6 (h.gw g cs hg).1 h.hB,fun e=>e,(h.gw g cs hg).2.2⟩,rfl,rfl,fun t=>?_,rfl,fun id bx hb=>by simp at hb,by simp,fun b hb=>by simp at hb,fun b hb=>by simp at hb,Aal _,fun l e xs v hl=>?_,fun l l' e e' xs xs' v v' g hl D4=>?_⟩
 · rw [Fh];exact .und S []
 · cases l with
   | tmp t=>exact absurd hl.1 (by rw [Fh];simp [und])
   | box id off=>obtain ⟨cs,b,h1,_⟩:=hl;simp [A0] at h1
 · cases l with
   | tmp t=>exact absurd hl.1 (by rw [Fh];simp [und])
   | box id off=>obtain ⟨cs,b,h1,_⟩:=hl;simp [A0] at h1
theorem Grows.kept {S':AI} {w':World} (h:Grows w.heap.size (fun _=>False) S w S' w') (hh:∀ b o v,S' b o=some v->w'.cell? ⟨b,o,none⟩=some v):Kept S w S' w':=
 ⟨h.os,h.tape,h.output,h.size,fun k hk=>h.block k hk (fun e=>e),h.store,fun k hk=>h.same k hk (fun e=>e),hh⟩
theorem Cd.ofPure {S:AI} {M:List Nat} (M':List Nat) {ps:List PV} {vs:List Value} (h:Cd S M ps vs) (hp:Al ps=true):Cd S M' ps vs:=
 ⟨h.1,fun i a b=>(h.2 i a b).ofPure M' (FY hp i a)⟩
theorem HE (h:Sim C D B T S M n st a w) {f:Operand} {args:Array Operand} {argTypes:Array TypeId} {k:FuncId} {vs:List PV}
 (hc:K4 C st.env { callee:=.value f,args,argTypes }=some (k,vs)) (ty:TypeId) {fn:Func} {c:Code} (hf:C.P.funcs[k]?=some fn) (Gt:(fn.name == "runtime.NumGoroutine")=false) (hb:fn.body=some c) :
 ∃ us:List Value,Cd S M vs us/\(∀ p ∈ vs,∀ e xs,p≠.osl e xs) /\
  (do let d <- resolve a.eval { callee:=.value f,args,argTypes } ty;invoke d.target d.args:Sem Next).run C.P w=.ok (.enter k us.toArray) w:=by
 unfold K4 at hc;simp only at hc;have hx:=h.opd f;split at hc
 · rename_i k' first captured mo
   rw [mo] at hx;obtain ⟨va,vc,hv,r1,r2⟩:=hx.fn_inv;injection hc with hc
   injection hc with h1 h2
   subst h1;subst h2;have sealMap:∀ {ps:List PV} {us:List Value},Cd S M ps us->Cd S M (ps.map PV.shutV) us:=fun hh=>⟨by simpa using hh.1,fun i a b=>by simpa using (hh.2 i (by simpa using a) b).shutV⟩;refine ⟨va.toList++args.toList.map a.eval++vc.toList,((sealMap r1).append (h.sealL args.toList)).append (sealMap r2),fun p hp e xs=>?_,?_⟩
   · rcases Aaj.1 hp with hp | hp
     · rcases Aaj.1 hp with hp | hp
       · obtain ⟨q,_,rfl⟩:=Aac.1 hp;exact Fk q e xs
       · obtain ⟨q,_,rfl⟩:=Aac.1 hp;exact Fk _ e xs
     · obtain ⟨q,_,rfl⟩:=Aac.1 hp;exact Fk q e xs
   · simp only [resolve,hv,Deferred.ofValue,invoke,Sem.run_bind,Sem.run_pure,Result.andThen_ok]
     rw [Go.MuLone.run_callFunc_enter hf Gt hb]
     congr 2
     apply Array.ext';simp
 · cases hc
def Touch (st:St) (M:List Nat) (a:Act) (w:World) (b:Nat):Prop:=
 b ∈ M\/∃ id off e xs v,LocAt st M a w (.box id off) (.osl e xs) v/\v.ownBlock=some b
theorem Sim.touchT (h:Sim C D B T S M n st a w) {b:Nat} (hb:w.heap.size<=b\/Touch st M a w b):B<=b\/T b:=by
 rcases hb with hb | hb | ⟨id,off,e,xs,v,hl,hv⟩
 · have:=h.hB;exact .inl (by omega)
 · exact h.mT b hb
 · exact (h.own _ _ _ _ hl).2 b hv
theorem Sim.gwT (h:Sim C D B T S M n st a w) {g:Nat} {cs:List PV} (hg:C.glob g=some cs) (e:Touch st M a w g):False:=by
 obtain ⟨h1,h2,_⟩:=h.gw g cs hg;rcases h.touchT (.inr e) with h3 | h3
 · omega
 · exact h2 h3
theorem Sim.sharedStart (h:Sim C D B T S M n st a w):CO C w.heap.size (Touch st M a w) S M st.bx w:=by
 have h':=h.heapOnly;refine ⟨h'.holds,h'.glob,fun g cs hg=>⟨Aa6 (h.gw g cs hg).1 h.hB,fun e=>h.gwT hg e,(h.gw g cs hg).2.2⟩,h'.size,h'.dfr,h'.env,h'.mlen,h'.boxes,h'.nodup,h'.mS,fun b hb=>.inr (.inl hb),Aal _,fun l e xs v hl=>⟨(h'.own l e xs v hl).1,fun g hg=>?_⟩,h'.apart⟩;cases l with
 | tmp t=>exact absurd hl.1 (by rw [Fh];simp [und])
 | box id off=>exact .inr (.inr ⟨id,off,e,xs,v,hl,hg⟩)
theorem Sim.afterCall (h:Sim C D B T S M n st a w) {S':AI} {M':List Nat} {bx':List PBox} {w':World} (hh:CO C w.heap.size (Touch st M a w) S' M' bx' w')
 (hg:Grows w.heap.size (Touch st M a w) S w S' w') (hp:M <+: M'):Sim C D B T S' M' n ⟨st.env,bx'⟩ a w'/\Grows B T S w S' w':=by
 have hM:∀ (id b:Nat),M[id]?=some b->M'[id]?=some b:=FZ hp
 -- a block that a temporary owns is not touched
 have free:∀ t e xs g,getT st.env t=.osl e xs->(a.tmps.getD t undef).ownBlock=some g->g < w.heap.size/\¬ Touch st M a w g:=by
  intro t e xs g he D5;have hl:LocAt st M a w (.tmp t) (.osl e xs) (a.tmps.getD t undef):=⟨he,rfl⟩;obtain ⟨h1,h2⟩:=h.own _ _ _ _ hl;refine ⟨h1.lt D5,?_⟩
  rintro (hm | ⟨id,off,e',xs',v,D4,hv⟩)
  · obtain ⟨i,vals,_,_,_,h3⟩:=h1
    exact (h3 g D5).1 hm
  · have:=h.apart _ _ _ _ _ _ _ _ g hl D4 D5 hv
    cases this
 have locB:∀ id off e xs v,LocAt ⟨st.env,bx'⟩ M' a w' (.box id off) (.osl e xs) v->LocAt ⟨[],bx'⟩ M' ⟨#[],[]⟩ w' (.box id off) (.osl e xs) v:=fun _ _ _ _ _ hl=>hl;refine ⟨⟨hh.holds,hh.glob,h.gw.keep (fun k hk Ur=>hg.block k (Aa6 hk h.hB) (fun e=>by rcases h.touchT (.inr e) with h | h;omega;exact Ur h)),h.size,h.dfr,fun t=>(h.env t).mono hg.store hM,hh.mlen,hh.boxes,hh.nodup,hh.mS,fun b hb=>h.touchT (hh.mT b hb),Aak h.hB hg.size,fun l e xs v hl=>?_,fun l l' e e' xs xs' v v' g hl D4 hv Pm=>?_⟩,hg.os,hg.tape,hg.output,hg.size,fun k hk Ur=>?_,hg.store,fun k hk Ur=>?_⟩
 · cases l with
   | tmp t=>
    obtain ⟨h1,h2⟩:=hl;subst h2;obtain ⟨h3,h4⟩:=h.own (.tmp t) e xs _ ⟨h1,rfl⟩;refine ⟨?_,h4⟩
    obtain ⟨i,vals,hi,GN,hx,um⟩:=h3.kept (S':=S') (w':=w') (fun g D5=>by
     obtain ⟨f1,f2⟩:=free t e xs g h1 D5;exact ⟨hg.block g f1 f2,hg.same g f1 f2⟩)
    refine ⟨i,vals,hi,GN,hx,fun g D5=>⟨fun hm=>?_,(um g D5).2⟩⟩;obtain ⟨f1,f2⟩:=free t e xs g h1 D5;rcases hh.mT g hm with h5 | h5
    · omega
    · exact f2 h5
   | box id off=>
    obtain ⟨h1,h2⟩:=hh.own _ _ _ _ (locB _ _ _ _ _ hl);exact ⟨h1,fun g D5=>h.touchT (h2 g D5)⟩
 · cases l with
   | tmp t=>
    obtain ⟨h1,h2⟩:=hl;subst h2;cases l' with
    | tmp t'=>
     obtain ⟨h3,h4⟩:=D4;subst h4;exact h.apart (.tmp t) (.tmp t') e e' xs xs' _ _ g ⟨h1,rfl⟩ ⟨h3,rfl⟩ hv Pm
    | box id off=>
     exfalso;obtain ⟨f1,f2⟩:=free t e xs g h1 hv;rcases (hh.own _ _ _ _ (locB _ _ _ _ _ D4)).2 g Pm with h5 | h5
     · omega
     · exact f2 h5
   | box id off=>
    cases l' with
    | tmp t=>
     exfalso;obtain ⟨h1,h2⟩:=D4;subst h2;obtain ⟨f1,f2⟩:=free t e' xs' g h1 Pm;rcases (hh.own _ _ _ _ (locB _ _ _ _ _ hl)).2 g hv with h5 | h5
     · omega
     · exact f2 h5
    | box id' off'=>exact hh.apart _ _ _ _ _ _ _ _ g (locB _ _ _ _ _ hl) (locB _ _ _ _ _ D4) hv Pm
 · have:=h.hB
   exact hg.block k (by omega) (fun ht=>by rcases h.touchT (.inr ht) with h5 | h5;omega;exact Ur h5)
 · have:=h.hB
   exact hg.same k (by omega) (fun ht=>by rcases h.touchT (.inr ht) with h5 | h5;omega;exact Ur h5)
theorem CO.trunc {T':Nat->Prop} {B':Nat} {S':AI} {M':List Nat} {bx':List PBox} {w':World} (hh:CO C B' T' S' M' bx' w') (hp:M <+: M') (hu:((bx'.take M.length).all (·.under M.length))=true) :
 CO C B' T' S' M (bx'.take M.length) w':=by
 have hlen:M.length<=bx'.length:=by rw [<- hh.mlen];exact hp.length_le
 have back:∀ id b:Nat,id < M.length->M'[id]?=some b->M[id]?=some b:=by
  intro id b hid hb;obtain ⟨t,rfl⟩:=hp;rw [Aa1 hid] at hb;exact hb
 have CU:∀ id cs,A0 (bx'.take M.length) id=some cs->A0 bx' id=some cs/\id < M.length:=by
  intro id cs hc;have Bz:=HD hc;simp only [Aaa] at Bz;have Bz:=Nat.lt_min.1 Bz;refine ⟨?_,Bz.1⟩;unfold A0 at hc |-;rw [Aa0 Bz.1] at hc;exact hc
 have loc:∀ l e xs v,LocAt ⟨[],bx'.take M.length⟩ M ⟨#[],[]⟩ w' l (.osl e xs) v->LocAt ⟨[],bx'⟩ M' ⟨#[],[]⟩ w' l (.osl e xs) v:=by
  intro l e xs v hl;cases l with
  | tmp t=>exact hl
  | box id off=>
   obtain ⟨cs,b,h1,h2,h3,h4⟩:=hl;exact ⟨cs,b,(CU id cs h1).1,h2,FZ hp id b h3,h4⟩
 refine ⟨hh.holds,hh.glob,hh.gw,rfl,rfl,fun t=>by rw [Fh];exact .und S' M,by simp;omega,fun id x hx=>?_,hp.sublist.nodup hh.nodup,fun b hb=>hh.mS b (hp.subset hb),fun b hb=>hh.mT b (hp.subset hb),hh.hB,fun l e xs v hl=>?_,fun l l' e e' xs xs' v v' g hl D4=>hh.apart _ _ _ _ _ _ _ _ g (loc _ _ _ _ hl) (loc _ _ _ _ D4)⟩
 · have hid:id < M.length:=by
    rcases Aa5 id M.length with h | h
    · exact h
    · rw [Aae (by simp;omega)] at hx;cases hx
   have vm:x.under M.length=true:=by rw [List.all_eq_true] at hu;exact hu x (Aa3 hx)
   rw [Aa0 hid] at hx;obtain ⟨b,h1,h2⟩:=hh.boxes id x hx;refine ⟨b,back id b hid h1,?_⟩;cases h2 with
   | cells te cs b c h3 l h4 hr=>exact .cells te cs b c h3 l h4 (fun i hi Dp=>(hr i hi Dp).ofUnder M.length M back (DO vm i hi))
   | iter s pos b h3=>exact .iter s pos b h3
 · obtain ⟨h1,h2⟩:=hh.own _ _ _ _ (loc l e xs v hl)
   obtain ⟨i,vals,hi,GN,hx,hg⟩:=h1;exact ⟨⟨i,vals,hi,GN,hx,fun g e=>⟨fun hm=>(hg g e).1 (hp.subset hm),(hg g e).2⟩⟩,h2⟩
theorem NP:∀ {al:List (Nat×Loc)} {m:Nat},CK al=some m->(∀ p ∈ al,∀ id off,p.2=.box id off->m<=id)/\∃ p ∈ al,∃ off,p.2=.box m off
 | [],m,h=>by simp [CK] at h
 | (d,.tmp t) :: r,m,h=>by
  unfold CK at h;obtain ⟨h1,p,h2,off,h3⟩:=NP h;refine ⟨fun q hq id o e=>?_,p,by simp [h2],off,h3⟩;rcases Aa9.1 hq with rfl | hq
  · cases e
  · exact h1 q hq id o e
 | (d,.box i o) :: r,m,h=>by
  unfold CK at h;split at h
  · rename_i k hk
    obtain ⟨h1,p,h2,off,h3⟩:=NP hk;injection h with h
    refine ⟨fun q hq id o' e=>?_,?_⟩
    · rcases Aa9.1 hq with rfl | hq
      · injection e with e1 e2;omega
      · have:=h1 q hq id o' e;omega
    · rcases Nat.le_total i k with hle | hle
      · exact ⟨(d,.box i o),by simp,o,by rw [<- h,Nat.min_eq_left hle]⟩
      · exact ⟨p,by simp [h2],off,by rw [<- h,Nat.min_eq_right hle];exact h3⟩
  · rename_i hk
    injection h with h
    subst h
    have none':∀ {al:List (Nat×Loc)},CK al=none->∀ p ∈ al,∀ id off,p.2≠.box id off:=by
     intro al
     induction al with
     | nil=>intro _ p hp;simp at hp
     | cons q r ih=>
      intro hn p hp id off;obtain ⟨d',l⟩:=q;cases l with
      | tmp t=>
       unfold CK at hn;rcases Aa9.1 hp with rfl | hp
       · intro e;cases e
       · exact ih hn p hp id off
      | box i' o'=>unfold CK at hn;split at hn <;> cases hn
    refine ⟨fun q hq id o' e=>?_,(d,.box i o),by simp,o,rfl⟩;rcases Aa9.1 hq with rfl | hq
    · injection e with e1 e2;omega
    · exact absurd e (none' hk q hq id o')
theorem Sim.afterCut (h:Sim C D B T S M n st a w) {m:Nat} (hm:m<=M.length) {S':AI} {bx1:List PBox} {w':World} (Ez:CO C B T S (M.take m) (st.bx.take m) w) (hh:CO C w.heap.size (Touch ⟨[],st.bx.take m⟩ (M.take m) ⟨#[],[]⟩ w) S' (M.take m) bx1 w')
 (hg:Grows w.heap.size (Touch ⟨[],st.bx.take m⟩ (M.take m) ⟨#[],[]⟩ w) S w S' w') :
 Sim C D B T S' M n ⟨st.env,bx1++st.bx.drop m⟩ a w'/\Grows B T S w S' w'/\∀ id b,m<=id->M[id]?=some b->w'.heap[b]?=w.heap[b]?:=by
 have hl:bx1.length=m:=by have:=hh.mlen;simp only [Aaa] at this;omega
 have uo:=h.mlen
 have CU:∀ id cs,A0 (st.bx.take m) id=some cs->A0 st.bx id=some cs/\id < m:=by
  intro id cs hc;have Bz:=HD hc;simp only [Aaa] at Bz;have Bz:=Nat.lt_min.1 Bz;refine ⟨?_,Bz.1⟩;unfold A0 at hc |-;rw [Aa0 Bz.1] at hc;exact hc
 have hMt:∀ id b,(M.take m)[id]?=some b->M[id]?=some b/\id < m:=by
  intro id b hb
  have Bz:id < m:=by
   rcases Aa5 id m with h1 | h1
   · exact h1
   · rw [Aae (by simp;omega)] at hb;cases hb
  rw [Aa0 Bz] at hb;exact ⟨hb,Bz⟩
 have locP:∀ id off p v,LocAt ⟨[],st.bx.take m⟩ (M.take m) ⟨#[],[]⟩ w (.box id off) p v->LocAt st M a w (.box id off) p v/\id < m:=by
  rintro id off p v ⟨cs,b,h1,h2,h3,h4⟩
  exact ⟨⟨cs,b,(CU id cs h1).1,h2,(hMt id b h3).1,h4⟩,(CU id cs h1).2⟩
 -- what a call may touch that knows the first boxes alone
 have tk:∀ b,Touch ⟨[],st.bx.take m⟩ (M.take m) ⟨#[],[]⟩ w b->Touch st M a w b:=by
  rintro b (hb | ⟨id,off,e,xs,v,Gr,hv⟩)
  · exact .inl (Aaf hb)
  · exact .inr ⟨id,off,e,xs,v,(locP _ _ _ _ Gr).1,hv⟩
 have tkT:∀ b,(w.heap.size<=b\/Touch ⟨[],st.bx.take m⟩ (M.take m) ⟨#[],[]⟩ w b)->B<=b\/T b:=fun b hb=>h.touchT (hb.imp_right (tk b))
 -- the other boxes
 have freeM:∀ id b,m<=id->M[id]?=some b->b < w.heap.size/\¬ Touch ⟨[],st.bx.take m⟩ (M.take m) ⟨#[],[]⟩ w b:=by
  intro id b hid hb;refine ⟨h.mlt (Aa3 hb),?_⟩
  rintro (Hv | ⟨id',off,e,xs,v,Gr,hv⟩)
  · obtain ⟨j,hj⟩:=Aa8.1 Hv
    obtain ⟨h1,h2⟩:=hMt j b hj;have SZ:=(Aa7.1 h1);have pI:=(Aa7.1 hb);obtain ⟨l1,e1⟩:=SZ;obtain ⟨l2,e2⟩:=pI;have:=(List.getElem_inj (h₀:=l1) (h₁:=l2) h.nodup).1 (e1.trans e2.symm);omega
  · obtain ⟨⟨_,_,_,_,_,h3⟩,_⟩:=h.own _ _ _ _ (locP _ _ _ _ Gr).1
    exact (h3 b hv).1 (Aa3 hb)
 have oldM:∀ id b,m<=id->M[id]?=some b->w'.heap[b]?=w.heap[b]?:=fun id b hid hb=>hg.block b (freeM id b hid hb).1 (freeM id b hid hb).2
 -- the places that the call did not know
 have old:∀ l e xs v,(∀ id off,l=.box id off->m<=id)->LocAt ⟨st.env,bx1++st.bx.drop m⟩ M a w' l (.osl e xs) v ->
  LocAt st M a w l (.osl e xs) v/\∀ g,v.ownBlock=some g->g < w.heap.size/\¬ Touch ⟨[],st.bx.take m⟩ (M.take m) ⟨#[],[]⟩ w g:=by
  intro l e xs v hid Gr
  have h0:LocAt st M a w l (.osl e xs) v:=by
   cases l with
   | tmp t=>exact Gr
   | box id off=>
    have hid:=hid id off rfl;obtain ⟨cs,b,h1,h2,h3,h4⟩:=Gr;refine ⟨cs,b,?_,h2,h3,?_⟩
    · unfold A0 at h1 |-
      simp only at h1;rw [Aab (by omega),Aag,hl,show m+(id - m)=id from by omega] at h1;exact h1
    · rw [Aad (a:=⟨b,off,none⟩) (oldM id b hid h3)] at h4
      exact h4
  refine ⟨h0,fun g D5=>?_⟩;obtain ⟨h1,h2⟩:=h.own _ _ _ _ h0;refine ⟨h1.lt D5,?_⟩
  rintro (Hv | ⟨id',off',e',xs',v',D4,Pm⟩)
  · obtain ⟨i,vals,_,_,_,h3⟩:=h1
    exact (h3 g D5).1 (Aaf Hv)
  · obtain ⟨q1,q2⟩:=locP _ _ _ _ D4
    have:=h.apart _ _ _ _ _ _ _ _ g h0 q1 D5 Pm;have:=hid id' off' this;omega
 have new:∀ id off e xs v,id < m->LocAt ⟨st.env,bx1++st.bx.drop m⟩ M a w' (.box id off) (.osl e xs) v->LocAt ⟨[],bx1⟩ (M.take m) ⟨#[],[]⟩ w' (.box id off) (.osl e xs) v:=by
  rintro id off e xs v hid ⟨cs,b,h1,h2,h3,h4⟩
  refine ⟨cs,b,?_,h2,?_,h4⟩
  · unfold A0 at h1 |-
    simp only at h1 |-;rw [Aa1 (by omega)] at h1;exact h1
  · rw [Aa0 hid];exact h3
 have hmono:∀ id b:Nat,(M.take m)[id]?=some b->M[id]?=some b:=fun id b hb=>(hMt id b hb).1;refine ⟨⟨hh.holds,hh.glob,h.gw.keep (fun k hk Ur=>hg.block k (Aa6 hk h.hB) (fun e=>by rcases tkT k (.inr e) with h | h;omega;exact Ur h)),h.size,h.dfr,fun t=>(h.env t).mono hg.store (fun _ _ x=>x),?_,fun id bx hb=>?_,h.nodup,fun b hb o=>?_,h.mT,Aak h.hB hg.size,fun l e xs v Gr=>?_,fun l l' e e' xs xs' v v' g Gr eh hv Pm=>?_⟩,⟨hg.os,hg.tape,hg.output,hg.size,fun k hk Ur=>?_,hg.store,fun k hk Ur=>?_⟩,oldM⟩
 · simp only [List.length_append,List.length_drop];omega
 · simp only at hb
   rcases Aa5 id m with hid | hid
   · rw [Aa1 (by omega)] at hb
     obtain ⟨b,h1,h2⟩:=hh.boxes id bx hb;refine ⟨b,hmono id b h1,?_⟩;cases h2 with
     | cells te cs b c h3 l h4 hr=>exact .cells te cs b c h3 l h4 (fun i hi Dp=>(hr i hi Dp).mono (AI.le.refl _) hmono)
     | iter s pos b h3=>exact .iter s pos b h3
   · rw [Aab (by omega),Aag,hl,show m+(id - m)=id from by omega] at hb
     obtain ⟨b,h1,h2⟩:=h.boxes id bx hb;exact ⟨b,h1,h2.kept hg.store (oldM id b hid h1)⟩
 · obtain ⟨id,hid⟩:=Aa8.1 hb
   rcases Aa5 id m with Bz | QJ
   · exact hh.mS b (Aa3 (by rw [Aa0 Bz];exact hid)) o
   · obtain ⟨f1,f2⟩:=freeM id b QJ hid
     rw [hg.same b f1 f2];exact h.mS b hb o
 · by_cases hc:∀ id off,l=.box id off->m<=id
   · obtain ⟨h0,f⟩:=old l e xs v hc Gr
     obtain ⟨h1,h2⟩:=h.own _ _ _ _ h0;exact ⟨h1.kept fun g D5=>⟨hg.block g (f g D5).1 (f g D5).2,hg.same g (f g D5).1 (f g D5).2⟩,h2⟩
   · cases l with
     | tmp t=>exact absurd (fun id off e=>by cases e) hc
     | box id off=>
      have hid:id < m:=by
       rcases Aa5 id m with h1 | h1
       · exact h1
       · exact absurd (fun id' off' e=>by injection e with e1 e2;omega) hc
      obtain ⟨h1,h2⟩:=hh.own _ _ _ _ (new id off e xs v hid Gr);refine ⟨?_,fun g D5=>tkT g (h2 g D5)⟩;obtain ⟨i,vals,hi,GN,hx,um⟩:=h1;refine ⟨i,vals,hi,GN,hx,fun g D5=>⟨fun IP=>?_,(um g D5).2⟩⟩;obtain ⟨j,hj⟩:=Aa8.1 IP;rcases Aa5 j m with Bz | QJ
      · exact (um g D5).1 (Aa3 (by rw [Aa0 Bz];exact hj))
      · obtain ⟨f1,f2⟩:=freeM j g QJ hj
        rcases h2 g D5 with h5 | h5
        · omega
        · exact f2 h5
 · have cross:∀ {l1 l2:Loc} {e1 e2:TypeId} {xs1 xs2:List PV} {v1 v2:Value},(∀ id off,l1=.box id off->m<=id)->(∃ id off,l2=.box id off/\id < m)->LocAt ⟨st.env,bx1++st.bx.drop m⟩ M a w' l1 (.osl e1 xs1) v1 ->
    LocAt ⟨st.env,bx1++st.bx.drop m⟩ M a w' l2 (.osl e2 xs2) v2->v1.ownBlock=some g->v2.ownBlock=some g->False:=by
    rintro l1 l2 e1 e2 xs1 xs2 v1 v2 c1 ⟨id,off,rfl,hid⟩ k1 k2 g1 g2
    obtain ⟨f1,f2⟩:=(old l1 e1 xs1 v1 c1 k1).2 g g1;rcases (hh.own _ _ _ _ (new id off e2 xs2 v2 hid k2)).2 g g2 with h5 | h5
    · omega
    · exact f2 h5
   have dec:∀ l:Loc,(∀ id off,l=.box id off->m<=id)\/∃ id off,l=.box id off/\id < m:=by
    intro l;cases l with
    | tmp t=>exact .inl (fun _ _ e=>by cases e)
    | box id off=>
     rcases Aa5 id m with h1 | h1
     · exact .inr ⟨id,off,rfl,h1⟩
     · exact .inl (fun id' off' e=>by injection e with e1 e2;omega)
   rcases dec l with c | c <;> rcases dec l' with c' | c'
   · exact h.apart _ _ _ _ _ _ _ _ g (old l e xs v c Gr).1 (old l' e' xs' v' c' eh).1 hv Pm
   · exact (cross c c' Gr eh hv Pm).elim
   · exact (cross c' c eh Gr Pm hv).elim
   · obtain ⟨id,off,rfl,hid⟩:=c
     obtain ⟨id',off',rfl,uh⟩:=c';exact hh.apart _ _ _ _ _ _ _ _ g (new id off e xs v hid Gr) (new id' off' e' xs' v' uh eh) hv Pm
 · have:=h.hB
   exact hg.block k (by omega) (fun ht=>by rcases tkT k (.inr ht) with h5 | h5;omega;exact Ur h5)
 · have:=h.hB
   exact hg.same k (by omega) (fun ht=>by rcases tkT k (.inr ht) with h5 | h5;omega;exact Ur h5)
theorem XQ (h:Sim C D B T S M n st a w) {o:Oper} (hd:∀ k,o.dst=some k->k < n) {al:List (Nat×Loc)} (Gs:GJ M a w al) {call:Cl} (Bn:DX C call)
 {f:Operand} {args:Array Operand} {argTypes:Array TypeId} (ho:o.op=.call { callee:=.value f,args,argTypes }) {k:FuncId} {vs:List PV} (Mw:K4 C st.env { callee:=.value f,args,argTypes }=some (k,vs))
 {m:Nat} (Cq:cutAt C k vs al st.bx=some m) {cr:CR} {bx:List PBox} (Er:Ai C call k vs (st.bx.take m)=some (cr,bx)) (hlen:bx.length=m) (hu:cr.under m=true) (yK:bx.all (·.under m)=true)
 (K:Act->World->Prop) (Q:Exit->Act->World->Prop)
 (hK:match cr with
  | .ret v=>∀ S' M' a' w',Sim C D B T S' M' n ((St.mk st.env (bx++st.bx.drop m)).put o.dst v) a' w'->Grows B T S w S' w'->M <+: M'->GJ M' a' w' (Ak al o.dst)->K a' w'
  | .pan v=>∀ S' M' a' w' x u,Sim C D B T S' M' n ⟨st.env,bx++st.bx.drop m⟩ a' w'->Grows B T S w S' w'->M <+: M'->Rep S' M' v u->x=[{ v:=u,recovered:=false }]->Q (.panic x) a' w'):o.wp C.P a w K Q:=by
 unfold cutAt at Cq;split at Cq
 · cases Cq
 rename_i m' hbm;split at Cq
 rotate_left
 · cases Cq
 rename_i GH;injection Cq with Cq
 subst Cq;simp only [Aa4] at GH;obtain ⟨K2,huv,rb⟩:=GH;obtain ⟨hmin,p0,pJ,off0,hp0e⟩:=NP hbm
 have hml:m' < M.length:=by
  have:=Gs p0 pJ;rw [hp0e] at this;obtain ⟨b,hb,_⟩:=this;exact (Aa7.1 hb).1
 have uo:=h.mlen;have Xl:(M.take m').length=m':=by simp;omega
 have htb:(st.bx.take m').length=m':=by simp;omega
 have Ez:CO C B T S (M.take m') (st.bx.take m') w:=by
  have:=CO.trunc (M:=M.take m') h.heapOnly (List.take_prefix m' M) (by rw [Xl];exact rb);rw [Xl] at this;exact this
 have hco2:∃ bx2,call k vs (st.bx.take m')=some (cr,bx2)/\bx=bx2.take m'/\((bx2.take m').all (·.under m'))=true:=by
  unfold Ai at Er;rw [if_pos K2] at Er;split at Er
  · rename_i r1 bx2 Qm
    injection Er with Er
    injection Er with e1 e2
    subst e1;rw [htb] at e2;refine ⟨bx2,Qm,?_⟩;unfold Es at e2;split at e2
    · rename_i hc
      simp only [Aa4] at hc;exact ⟨e2.symm,hc.2⟩
    · subst e2
      have:bx2.take m'=bx2:=List.take_of_length_le (by omega);rw [this];exact ⟨rfl,yK⟩
  · cases Er
 obtain ⟨bx2,Qm,rfl,D1⟩:=hco2;obtain ⟨⟨fn,c,hf,Gt,hb⟩,hs⟩:=Bn k vs _ cr bx2 Qm;obtain ⟨us,bT,GU,BW⟩:=HE h Mw o.type hf Gt hb;have back:∀ id b:Nat,id < m'->M[id]?=some b->(M.take m')[id]?=some b:=fun id b hid hb=>by rw [Aa0 hid];exact hb
 have hus':Cd S (M.take m') vs us:=⟨bT.1,fun i x y=>(bT.2 i x y).ofUnder m' _ back (DO huv i x)⟩;unfold Aah;rw [execOp,ho,BW];refine (hs GU _ _ _ _ us w Ez.sharedStart hus').mono fun e w' ⟨S',M',hh,hg,hp,Zp⟩=>?_;have ej:=CO.trunc hh hp (by rw [Xl];exact D1);rw [Xl] at ej;obtain ⟨h1,h2,h3⟩:=h.afterCut (Nat.le_of_lt hml) Ez ej hg
 have bk:∀ id b:Nat,id < m'->M'[id]?=some b->M[id]?=some b:=fun id b hid hb=>by
  obtain ⟨t,rfl⟩:=hp;rw [Aa1 (by rw [Xl];exact hid),Aa0 hid] at hb;exact hb
 cases cr with
 | ret v=>
  obtain ⟨Us,u,rfl,DL⟩:=Zp;show K (a.put o.dst u) w';have Zq:=DL.ofUnder m' M bk hu;refine hK S' M _ w' (h1.put o.dst hd Zq Us) h2 (Aa2 _) ?_;intro p ek;obtain ⟨m1,m2⟩:=EU ek;have hc:=Gs p m1;have hmp:=hmin p m1;obtain ⟨d',l⟩:=p;cases l with
  | tmp t=>
   simp only [IZ] at hc |-;rw [CP h.size hd _ (fun k hk=>(m2 k hk).1),CP h.size hd _ (fun k hk=>by simpa using (m2 k hk).2)];exact hc
  | box id off=>
   obtain ⟨b,e1,e2⟩:=hc;refine ⟨b,e1,?_⟩;rw [CP h.size hd _ (fun k hk=>(m2 k hk).1),Aad (a:=⟨b,off,none⟩) (h3 id b (hmp id off rfl) e1)];exact e2
 | pan v=>
  obtain ⟨u,rfl,DL⟩:=Zp;exact hK S' M a w' _ u h1 h2 (Aa2 _) (DL.ofUnder m' M bk hu) rfl
theorem eJ (h:Sim C D B T S M n st a w) {o:Oper} (hd:∀ k,o.dst=some k->k < n) {al:List (Nat×Loc)} (Gs:GJ M a w al) {call:Cl} (Bn:DX C call)
 {f:Operand} {args:Array Operand} {argTypes:Array TypeId} (ho:o.op=.call { callee:=.value f,args,argTypes }) (draw:Bool) {r:OpR} (hr:Bp C call draw al o st=some r) :
 Fj C D B T S M n a w o r:=by
 intro K Q hK;unfold Bp at hr;rw [ho] at hr;simp only at hr;split at hr
 · rename_i k vs Mw
   by_cases IU:((draw && VI f) && (C.heap k || !(Al vs)))=true
   · rw [if_pos IU] at hr;cases hr
   rw [if_neg IU] at hr;split at hr
   · rename_i m Cq
     have Cq:cutAt C k vs al st.bx=some m:=by
      unfold JK at Cq;split at Cq
      · exact Cq
      · cases Cq
     split at hr
     · rename_i v bx Er
       split at hr
       · rename_i hc
         simp only [Aa4,decide_eq_true_eq] at hc;injection hr with hr
         subst hr;exact XQ h hd Gs Bn ho Mw Cq Er hc.1 hc.2.1 hc.2.2 K Q hK
       · cases hr
     · rename_i v bx Er
       split at hr
       · rename_i hc
         simp only [Aa4,decide_eq_true_eq] at hc;injection hr with hr
         subst hr;exact XQ h hd Gs Bn ho Mw Cq Er hc.1 hc.2.1 hc.2.2 K Q hK
       · cases hr
     · cases hr
   rename_i Cq;clear Cq;unfold Ai at hr;split at hr
   · rename_i v bx Er
     split at Er
     · -- it may know the boxes
       rename_i K2;split at Er
       · rename_i r1 bx1 Qm
         injection Er with Er
         injection Er with e1 e2
         subst e1;subst e2;injection hr with hr
         subst hr;obtain ⟨⟨fn,c,hf,Gt,hb⟩,hs⟩:=Bn k vs st.bx (.ret v) bx1 Qm;obtain ⟨us,bT,GU,BW⟩:=HE h Mw o.type hf Gt hb;unfold Aah;rw [execOp,ho,BW];refine (hs GU _ _ _ _ us w h.sharedStart bT).mono fun e w' ⟨S',M',hh,hg,hp,Zp⟩=>?_;obtain ⟨Us,u,rfl,DL⟩:=Zp;show K (a.put o.dst u) w';simp only [] at hK;unfold Es at hK;split at hK
         · rename_i hu
           simp only [Aa4,CR.under] at hu;rw [<- h.mlen] at hu;have ej:=CO.trunc hh hp hu.2;rw [h.mlen] at ej;obtain ⟨h1,h2⟩:=h.afterCall ej hg (Aa2 M)
           have Zq:=DL.ofUnder M.length M (fun id b hid hb=>by
            obtain ⟨t,rfl⟩:=hp;rw [Aa1 hid] at hb;exact hb) hu.1
           refine hK S' M _ w' (h1.put o.dst hd Zq Us) h2 (Aa2 _) ?_;unfold Dr;rw [if_pos K2];intro p ek;obtain ⟨m1,m2⟩:=EU ek;simp only [Aai] at m1;obtain ⟨m3,m4⟩:=m1;have hc:=Gs p m3;obtain ⟨d',l⟩:=p;cases l with
           | tmp t=>
            simp only [IZ] at hc |-;rw [CP h.size hd _ (fun k hk=>(m2 k hk).1),CP h.size hd _ (fun k hk=>by simpa using (m2 k hk).2)];exact hc
           | box id off=>simp at m4
         · obtain ⟨h1,h2⟩:=h.afterCall hh hg hp
           refine hK S' M' _ w' (h1.put o.dst hd DL Us) h2 hp ?_;unfold Dr;rw [if_pos K2];intro p ek;obtain ⟨m1,m2⟩:=EU ek;simp only [Aai] at m1;obtain ⟨m3,m4⟩:=m1;have hc:=Gs p m3;obtain ⟨d',l⟩:=p;cases l with
           | tmp t=>
            simp only [IZ] at hc |-;rw [CP h.size hd _ (fun k hk=>(m2 k hk).1),CP h.size hd _ (fun k hk=>by simpa using (m2 k hk).2)];exact hc
           | box id off=>simp at m4
       · cases Er
     · rename_i K2
       split at Er
       · rename_i r1 b0 Qm
         split at Er
         · rename_i Zr
           injection Er with Er
           injection Er with e1 e2
           injection e1 with e1
           subst e1;subst e2;injection hr with hr
           subst hr;obtain ⟨⟨fn,c,hf,Gt,hb⟩,hs⟩:=Bn k vs [] (.ret r1) b0 Qm;obtain ⟨us,bT,GU,BW⟩:=HE h Mw o.type hf Gt hb;unfold Aah;rw [execOp,ho,BW]
           have hpv:Al vs=true:=by
            simp only [Bool.or_eq_true,Bool.not_eq_true',not_or] at K2;simpa using K2.2
           refine (hs GU _ _ _ _ us w h.apartStart (bT.ofPure [] hpv)).mono fun e w' ⟨S',M',hh,hg,hp,Zp⟩=>?_;obtain ⟨Us,u,rfl,DL⟩:=Zp;show K (a.put o.dst u) w';have hk:=Grows.kept hg hh.holds;refine hK S' M _ w' ((h.kept hk).put o.dst hd (DL.ofPure M Zr) Us) (hk.grows h.hB) (Aa2 _) ?_;unfold Dr;rw [if_neg K2];exact Gs.put h.size hd _ (fun _ _ x=>x) (fun b hb=>hk.block b (h.mlt hb))
         · cases Er
       · cases Er
   · rename_i v bx Er
     split at Er
     · rename_i K2
       split at Er
       · rename_i r1 bx1 Qm
         injection Er with Er
         injection Er with e1 e2
         subst e1;subst e2;injection hr with hr
         subst hr;obtain ⟨⟨fn,c,hf,Gt,hb⟩,hs⟩:=Bn k vs st.bx (.pan v) bx1 Qm;obtain ⟨us,bT,GU,BW⟩:=HE h Mw o.type hf Gt hb;unfold Aah;rw [execOp,ho,BW];refine (hs GU _ _ _ _ us w h.sharedStart bT).mono fun e w' ⟨S',M',hh,hg,hp,Zp⟩=>?_;obtain ⟨u,rfl,DL⟩:=Zp;show Q (.panic [{ v:=u,recovered:=false }]) a w';simp only [] at hK;unfold Es at hK
         · split at hK
           · rename_i hu
             simp only [Aa4,CR.under] at hu;rw [<- h.mlen] at hu;have ej:=CO.trunc hh hp hu.2;obtain ⟨h1,h2⟩:=h.afterCall ej hg (Aa2 M)
             have Zq:=DL.ofUnder M.length M (fun id b hid hb=>by
              obtain ⟨t,rfl⟩:=hp;rw [Aa1 hid] at hb;exact hb) hu.1
             exact hK S' M a w' _ u (by rw [<- h.mlen];exact h1) h2 (Aa2 _) Zq rfl
           · obtain ⟨h1,h2⟩:=h.afterCall hh hg hp
             exact hK S' M' a w' _ u h1 h2 hp DL rfl
       · cases Er
     · split at Er
       · split at Er
         · injection Er with Er;injection Er with e1 e2;cases e1
         · cases Er
       · cases Er
   · cases hr
 · cases hr
end
end Go.HH
