/-
  What the law needs, packed: Step8.
-/
import Derived.Test.YtmiilonaehgplaaM16
namespace Go.HH
open Go Go.RowKit
section
variable {C:Cfg} {D:List Deferred} {B:Nat} {T:Nat->Prop} {S:Store} {M:List Nat} {n:Nat} {st:St} {a:Act} {w:World}
theorem seal_not_osl (p:PV) (e:TypeId) (xs:List PV):p.shutV≠.osl e xs:=by cases p <;> simp [PV.shutV,PV.seal1]
theorem Sim.heapOnly (h:Sim C D B T S M n st a w):HSim C B T S M st.bx w:=by
 refine ⟨h.holds,h.glob,h.gw,rfl,rfl,fun t=>?_,h.mlen,h.boxes,h.nodup,h.mS,h.mT,h.hB,fun l e xs v hl=>?_,fun l l' e e' xs xs' v v' g hl hl'=>?_⟩
 · rw [getT_nil];exact .und S M
 · cases l with
   | tmp t=>exact absurd hl.1 (by rw [getT_nil];simp [und])
   | box id off=>exact h.own (.box id off) e xs v hl
 · cases l with
   | tmp t=>exact absurd hl.1 (by rw [getT_nil];simp [und])
   | box id off=>
    cases l' with
    | tmp t=>exact absurd hl'.1 (by rw [getT_nil];simp [und])
    | box id' off'=>exact h.apart (.box id off) (.box id' off') e e' xs xs' v v' g hl hl'
theorem Sim.apartStart (h:Sim C D B T S M n st a w):HSim C w.heap.size (fun _=>False) S [] [] w:=by
 refine ⟨h.holds,h.glob,fun g cs hg=>⟨Nat.lt_of_lt_of_le (h.gw g cs hg).1 h.hB,fun e=>e,(h.gw g cs hg).2.2⟩,rfl,rfl,fun t=>?_,rfl,fun id bx hb=>by simp at hb,by simp,fun b hb=>by simp at hb,fun b hb=>by simp at hb,Nat.le_refl _,fun l e xs v hl=>?_,fun l l' e e' xs xs' v v' g hl hl'=>?_⟩
 · rw [getT_nil];exact .und S []
 · cases l with
   | tmp t=>exact absurd hl.1 (by rw [getT_nil];simp [und])
   | box id off=>obtain ⟨cs,b,h1,_⟩:=hl;simp [boxCells] at h1
 · cases l with
   | tmp t=>exact absurd hl.1 (by rw [getT_nil];simp [und])
   | box id off=>obtain ⟨cs,b,h1,_⟩:=hl;simp [boxCells] at h1
theorem Grows.kept {S':Store} {w':World} (h:Grows w.heap.size (fun _=>False) S w S' w') (hh:∀ b o v,S' b o=some v->w'.cell? ⟨b,o,none⟩=some v):Kept S w S' w':=
 ⟨h.os,h.tape,h.output,h.size,fun k hk=>h.block k hk (fun e=>e),h.store,fun k hk=>h.same k hk (fun e=>e),hh⟩
theorem RepL.ofPure {S:Store} {M:List Nat} (M':List Nat) {ps:List PV} {vs:List Value} (h:RepL S M ps vs) (hp:pureL ps=true):RepL S M' ps vs:=
 ⟨h.1,fun i a b=>(h.2 i a b).ofPure M' (pureL_get hp i a)⟩
theorem resolve_run (h:Sim C D B T S M n st a w) {f:Operand} {args:Array Operand} {argTypes:Array TypeId} {k:FuncId} {vs:List PV}
 (hc:calleeP C st.env { callee:=.value f,args,argTypes }=some (k,vs)) (ty:TypeId) {fn:Func} {c:Code} (hf:C.P.funcs[k]?=some fn) (hname:(fn.name == "runtime.NumGoroutine")=false) (hb:fn.body=some c) :
 ∃ us:List Value,RepL S M vs us∧(∀ p ∈ vs,∀ e xs,p≠.osl e xs) ∧
  (do let d <- resolve a.eval { callee:=.value f,args,argTypes } ty;invoke d.target d.args:Sem Next).run C.P w=.ok (.enter k us.toArray) w:=by
 unfold calleeP at hc
 simp only at hc
 have hx:=h.opd f
 split at hc
 · rename_i k' first captured hfn
   rw [hfn] at hx
   obtain ⟨va,vc,hv,r1,r2⟩:=hx.fn_inv
   injection hc with hc
   injection hc with h1 h2
   subst h1
   subst h2
   have sealMap:∀ {ps:List PV} {us:List Value},RepL S M ps us->RepL S M (ps.map PV.shutV) us:=fun hh=>⟨by simpa using hh.1,fun i a b=>by simpa using (hh.2 i (by simpa using a) b).shutV⟩
   refine ⟨va.toList++args.toList.map a.eval++vc.toList,((sealMap r1).append (h.sealL args.toList)).append (sealMap r2),fun p hp e xs=>?_,?_⟩
   · rcases List.mem_append.1 hp with hp | hp
     · rcases List.mem_append.1 hp with hp | hp
       · obtain ⟨q,_,rfl⟩:=List.mem_map.1 hp;exact seal_not_osl q e xs
       · obtain ⟨q,_,rfl⟩:=List.mem_map.1 hp;exact seal_not_osl _ e xs
     · obtain ⟨q,_,rfl⟩:=List.mem_map.1 hp;exact seal_not_osl q e xs
   · simp only [resolve,hv,Deferred.ofValue,invoke,Sem.run_bind,Sem.run_pure,Result.andThen_ok]
     rw [Go.MuLone.run_callFunc_enter hf hname hb]
     congr 2
     apply Array.ext'
     simp
 · cases hc
def Touch (st:St) (M:List Nat) (a:Act) (w:World) (b:Nat):Prop:=
 b ∈ M∨∃ id off e xs v,LocAt st M a w (.box id off) (.osl e xs) v∧v.ownBlock=some b
theorem Sim.touchT (h:Sim C D B T S M n st a w) {b:Nat} (hb:w.heap.size<=b∨Touch st M a w b):B<=b∨T b:=by
 rcases hb with hb | hb | ⟨id,off,e,xs,v,hl,hv⟩
 · have:=h.hB;exact .inl (by omega)
 · exact h.mT b hb
 · exact (h.own _ _ _ _ hl).2 b hv
theorem Sim.gwT (h:Sim C D B T S M n st a w) {g:Nat} {cs:List PV} (hg:C.glob g=some cs) (e:Touch st M a w g):False:=by
 obtain ⟨h1,h2,_⟩:=h.gw g cs hg
 rcases h.touchT (.inr e) with h3 | h3
 · omega
 · exact h2 h3
theorem Sim.sharedStart (h:Sim C D B T S M n st a w):HSim C w.heap.size (Touch st M a w) S M st.bx w:=by
 have h':=h.heapOnly
 refine ⟨h'.holds,h'.glob,fun g cs hg=>⟨Nat.lt_of_lt_of_le (h.gw g cs hg).1 h.hB,fun e=>h.gwT hg e,(h.gw g cs hg).2.2⟩,h'.size,h'.dfr,h'.env,h'.mlen,h'.boxes,h'.nodup,h'.mS,fun b hb=>.inr (.inl hb),Nat.le_refl _,fun l e xs v hl=>⟨(h'.own l e xs v hl).1,fun g hg=>?_⟩,h'.apart⟩
 cases l with
 | tmp t=>exact absurd hl.1 (by rw [getT_nil];simp [und])
 | box id off=>exact .inr (.inr ⟨id,off,e,xs,v,hl,hg⟩)
theorem Sim.afterCall (h:Sim C D B T S M n st a w) {S':Store} {M':List Nat} {bx':List PBox} {w':World} (hh:HSim C w.heap.size (Touch st M a w) S' M' bx' w')
 (hg:Grows w.heap.size (Touch st M a w) S w S' w') (hp:M <+: M'):Sim C D B T S' M' n ⟨st.env,bx'⟩ a w'∧Grows B T S w S' w':=by
 have hM:∀ (id b:Nat),M[id]?=some b->M'[id]?=some b:=prefix_get hp
 -- a block that a temporary owns is not touched
 have free:∀ t e xs g,getT st.env t=.osl e xs->(a.tmps.getD t undef).ownBlock=some g->g < w.heap.size∧¬ Touch st M a w g:=by
  intro t e xs g he hg'
  have hl:LocAt st M a w (.tmp t) (.osl e xs) (a.tmps.getD t undef):=⟨he,rfl⟩
  obtain ⟨h1,h2⟩:=h.own _ _ _ _ hl
  refine ⟨h1.lt hg',?_⟩
  rintro (hm | ⟨id,off,e',xs',v,hl',hv⟩)
  · obtain ⟨i,vals,_,_,_,h3⟩:=h1
    exact (h3 g hg').1 hm
  · have:=h.apart _ _ _ _ _ _ _ _ g hl hl' hg' hv
    cases this
 have locB:∀ id off e xs v,LocAt ⟨st.env,bx'⟩ M' a w' (.box id off) (.osl e xs) v->LocAt ⟨[],bx'⟩ M' ⟨#[],[]⟩ w' (.box id off) (.osl e xs) v:=fun _ _ _ _ _ hl=>hl
 refine ⟨⟨hh.holds,hh.glob,h.gw.keep (fun k hk hnT=>hg.block k (Nat.lt_of_lt_of_le hk h.hB) (fun e=>by rcases h.touchT (.inr e) with h | h;omega;exact hnT h)),h.size,h.dfr,fun t=>(h.env t).mono hg.store hM,hh.mlen,hh.boxes,hh.nodup,hh.mS,fun b hb=>h.touchT (hh.mT b hb),Nat.le_trans h.hB hg.size,fun l e xs v hl=>?_,fun l l' e e' xs xs' v v' g hl hl' hv hv'=>?_⟩,hg.os,hg.tape,hg.output,hg.size,fun k hk hnT=>?_,hg.store,fun k hk hnT=>?_⟩
 · cases l with
   | tmp t=>
    obtain ⟨h1,h2⟩:=hl
    subst h2
    obtain ⟨h3,h4⟩:=h.own (.tmp t) e xs _ ⟨h1,rfl⟩
    refine ⟨?_,h4⟩
    obtain ⟨i,vals,hi,hrow,hx,hgg⟩:=h3.kept (S':=S') (w':=w') (fun g hg'=>by
     obtain ⟨f1,f2⟩:=free t e xs g h1 hg'
     exact ⟨hg.block g f1 f2,hg.same g f1 f2⟩)
    refine ⟨i,vals,hi,hrow,hx,fun g hg'=>⟨fun hm=>?_,(hgg g hg').2⟩⟩
    obtain ⟨f1,f2⟩:=free t e xs g h1 hg'
    rcases hh.mT g hm with h5 | h5
    · omega
    · exact f2 h5
   | box id off=>
    obtain ⟨h1,h2⟩:=hh.own _ _ _ _ (locB _ _ _ _ _ hl)
    exact ⟨h1,fun g hg'=>h.touchT (h2 g hg')⟩
 · cases l with
   | tmp t=>
    obtain ⟨h1,h2⟩:=hl
    subst h2
    cases l' with
    | tmp t'=>
     obtain ⟨h3,h4⟩:=hl'
     subst h4
     exact h.apart (.tmp t) (.tmp t') e e' xs xs' _ _ g ⟨h1,rfl⟩ ⟨h3,rfl⟩ hv hv'
    | box id off=>
     exfalso
     obtain ⟨f1,f2⟩:=free t e xs g h1 hv
     rcases (hh.own _ _ _ _ (locB _ _ _ _ _ hl')).2 g hv' with h5 | h5
     · omega
     · exact f2 h5
   | box id off=>
    cases l' with
    | tmp t=>
     exfalso
     obtain ⟨h1,h2⟩:=hl'
     subst h2
     obtain ⟨f1,f2⟩:=free t e' xs' g h1 hv'
     rcases (hh.own _ _ _ _ (locB _ _ _ _ _ hl)).2 g hv with h5 | h5
     · omega
     · exact f2 h5
    | box id' off'=>exact hh.apart _ _ _ _ _ _ _ _ g (locB _ _ _ _ _ hl) (locB _ _ _ _ _ hl') hv hv'
 · have:=h.hB
   exact hg.block k (by omega) (fun ht=>by rcases h.touchT (.inr ht) with h5 | h5;omega;exact hnT h5)
 · have:=h.hB
   exact hg.same k (by omega) (fun ht=>by rcases h.touchT (.inr ht) with h5 | h5;omega;exact hnT h5)
theorem HSim.trunc {T':Nat->Prop} {B':Nat} {S':Store} {M':List Nat} {bx':List PBox} {w':World} (hh:HSim C B' T' S' M' bx' w') (hp:M <+: M') (hu:((bx'.take M.length).all (·.under M.length))=true) :
 HSim C B' T' S' M (bx'.take M.length) w':=by
 have hlen:M.length<=bx'.length:=by rw [<- hh.mlen];exact hp.length_le
 have back:∀ id b:Nat,id < M.length->M'[id]?=some b->M[id]?=some b:=by
  intro id b hid hb
  obtain ⟨t,rfl⟩:=hp
  rw [List.getElem?_append_left hid] at hb
  exact hb
 have hcells:∀ id cs,boxCells (bx'.take M.length) id=some cs->boxCells bx' id=some cs∧id < M.length:=by
  intro id cs hc
  have hlt:=boxCells_lt hc
  simp only [List.length_take] at hlt
  have hlt:=Nat.lt_min.1 hlt
  refine ⟨?_,hlt.1⟩
  unfold boxCells at hc ⊢
  rw [List.getElem?_take_of_lt hlt.1] at hc
  exact hc
 have loc:∀ l e xs v,LocAt ⟨[],bx'.take M.length⟩ M ⟨#[],[]⟩ w' l (.osl e xs) v->LocAt ⟨[],bx'⟩ M' ⟨#[],[]⟩ w' l (.osl e xs) v:=by
  intro l e xs v hl
  cases l with
  | tmp t=>exact hl
  | box id off=>
   obtain ⟨cs,b,h1,h2,h3,h4⟩:=hl
   exact ⟨cs,b,(hcells id cs h1).1,h2,prefix_get hp id b h3,h4⟩
 refine ⟨hh.holds,hh.glob,hh.gw,rfl,rfl,fun t=>by rw [getT_nil];exact .und S' M,by simp;omega,fun id x hx=>?_,hp.sublist.nodup hh.nodup,fun b hb=>hh.mS b (hp.subset hb),fun b hb=>hh.mT b (hp.subset hb),hh.hB,fun l e xs v hl=>?_,fun l l' e e' xs xs' v v' g hl hl'=>hh.apart _ _ _ _ _ _ _ _ g (loc _ _ _ _ hl) (loc _ _ _ _ hl')⟩
 · have hid:id < M.length:=by
    rcases Nat.lt_or_ge id M.length with h | h
    · exact h
    · rw [List.getElem?_eq_none (by simp;omega)] at hx;cases hx
   have hxu:x.under M.length=true:=by rw [List.all_eq_true] at hu;exact hu x (List.mem_of_getElem? hx)
   rw [List.getElem?_take_of_lt hid] at hx
   obtain ⟨b,h1,h2⟩:=hh.boxes id x hx
   refine ⟨b,back id b hid h1,?_⟩
   cases h2 with
   | cells te cs b c h3 l h4 hr=>exact .cells te cs b c h3 l h4 (fun i hi hi'=>(hr i hi hi').ofUnder M.length M back (underL_get hxu i hi))
   | iter s pos b h3=>exact .iter s pos b h3
   | mp es b c k h3 l hr=>
    refine .mp es b c k h3 l fun i hi hi'=>?_
    have hu2:(es[i].1.under M.length && es[i].2.under M.length)=true:=by
     have hu3:(es.all fun p=>p.1.under M.length && p.2.under M.length)=true:=hxu
     rw [List.all_eq_true] at hu3
     exact hu3 _ (List.getElem_mem hi)
    rw [Bool.and_eq_true] at hu2
    exact ⟨(hr i hi hi').1.ofUnder M.length M back hu2.1,(hr i hi hi').2.ofUnder M.length M back hu2.2⟩
 · obtain ⟨h1,h2⟩:=hh.own _ _ _ _ (loc l e xs v hl)
   obtain ⟨i,vals,hi,hrow,hx,hg⟩:=h1
   exact ⟨⟨i,vals,hi,hrow,hx,fun g e=>⟨fun hm=>(hg g e).1 (hp.subset hm),(hg g e).2⟩⟩,h2⟩
theorem boxMin_le:∀ {al:List (Nat×Loc)} {m:Nat},boxMin al=some m->(∀ p ∈ al,∀ id off,p.2=.box id off->m<=id)∧∃ p ∈ al,∃ off,p.2=.box m off
 | [],m,h=>by simp [boxMin] at h
 | (d,.tmp t) :: r,m,h=>by
  unfold boxMin at h
  obtain ⟨h1,p,h2,off,h3⟩:=boxMin_le h
  refine ⟨fun q hq id o e=>?_,p,by simp [h2],off,h3⟩
  rcases List.mem_cons.1 hq with rfl | hq
  · cases e
  · exact h1 q hq id o e
 | (d,.box i o) :: r,m,h=>by
  unfold boxMin at h
  split at h
  · rename_i k hk
    obtain ⟨h1,p,h2,off,h3⟩:=boxMin_le hk
    injection h with h
    refine ⟨fun q hq id o' e=>?_,?_⟩
    · rcases List.mem_cons.1 hq with rfl | hq
      · injection e with e1 e2;omega
      · have:=h1 q hq id o' e;omega
    · rcases Nat.le_total i k with hle | hle
      · exact ⟨(d,.box i o),by simp,o,by rw [<- h,Nat.min_eq_left hle]⟩
      · exact ⟨p,by simp [h2],off,by rw [<- h,Nat.min_eq_right hle];exact h3⟩
  · rename_i hk
    injection h with h
    subst h
    have none':∀ {al:List (Nat×Loc)},boxMin al=none->∀ p ∈ al,∀ id off,p.2≠.box id off:=by
     intro al
     induction al with
     | nil=>intro _ p hp;simp at hp
     | cons q r ih=>
      intro hn p hp id off
      obtain ⟨d',l⟩:=q
      cases l with
      | tmp t=>
       unfold boxMin at hn
       rcases List.mem_cons.1 hp with rfl | hp
       · intro e;cases e
       · exact ih hn p hp id off
      | box i' o'=>unfold boxMin at hn;split at hn <;> cases hn
    refine ⟨fun q hq id o' e=>?_,(d,.box i o),by simp,o,rfl⟩
    rcases List.mem_cons.1 hq with rfl | hq
    · injection e with e1 e2;omega
    · exact absurd e (none' hk q hq id o')
theorem Sim.afterCut (h:Sim C D B T S M n st a w) {m:Nat} (hm:m<=M.length) {S':Store} {bx1:List PBox} {w':World} (hst:HSim C B T S (M.take m) (st.bx.take m) w) (hh:HSim C w.heap.size (Touch ⟨[],st.bx.take m⟩ (M.take m) ⟨#[],[]⟩ w) S' (M.take m) bx1 w')
 (hg:Grows w.heap.size (Touch ⟨[],st.bx.take m⟩ (M.take m) ⟨#[],[]⟩ w) S w S' w') :
 Sim C D B T S' M n ⟨st.env,bx1++st.bx.drop m⟩ a w'∧Grows B T S w S' w'∧∀ id b,m<=id->M[id]?=some b->w'.heap[b]?=w.heap[b]?:=by
 have hl:bx1.length=m:=by have:=hh.mlen;simp only [List.length_take] at this;omega
 have hbl:=h.mlen
 have hcells:∀ id cs,boxCells (st.bx.take m) id=some cs->boxCells st.bx id=some cs∧id < m:=by
  intro id cs hc
  have hlt:=boxCells_lt hc
  simp only [List.length_take] at hlt
  have hlt:=Nat.lt_min.1 hlt
  refine ⟨?_,hlt.1⟩
  unfold boxCells at hc ⊢
  rw [List.getElem?_take_of_lt hlt.1] at hc
  exact hc
 have hMt:∀ id b,(M.take m)[id]?=some b->M[id]?=some b∧id < m:=by
  intro id b hb
  have hlt:id < m:=by
   rcases Nat.lt_or_ge id m with h1 | h1
   · exact h1
   · rw [List.getElem?_eq_none (by simp;omega)] at hb;cases hb
  rw [List.getElem?_take_of_lt hlt] at hb
  exact ⟨hb,hlt⟩
 have locP:∀ id off p v,LocAt ⟨[],st.bx.take m⟩ (M.take m) ⟨#[],[]⟩ w (.box id off) p v->LocAt st M a w (.box id off) p v∧id < m:=by
  rintro id off p v ⟨cs,b,h1,h2,h3,h4⟩
  exact ⟨⟨cs,b,(hcells id cs h1).1,h2,(hMt id b h3).1,h4⟩,(hcells id cs h1).2⟩
 -- what a call may touch that knows the first boxes alone
 have tk:∀ b,Touch ⟨[],st.bx.take m⟩ (M.take m) ⟨#[],[]⟩ w b->Touch st M a w b:=by
  rintro b (hb | ⟨id,off,e,xs,v,hloc,hv⟩)
  · exact .inl (List.mem_of_mem_take hb)
  · exact .inr ⟨id,off,e,xs,v,(locP _ _ _ _ hloc).1,hv⟩
 have tkT:∀ b,(w.heap.size<=b∨Touch ⟨[],st.bx.take m⟩ (M.take m) ⟨#[],[]⟩ w b)->B<=b∨T b:=fun b hb=>h.touchT (hb.imp_right (tk b))
 -- the other boxes
 have freeM:∀ id b,m<=id->M[id]?=some b->b < w.heap.size∧¬ Touch ⟨[],st.bx.take m⟩ (M.take m) ⟨#[],[]⟩ w b:=by
  intro id b hid hb
  refine ⟨h.mlt (List.mem_of_getElem? hb),?_⟩
  rintro (hm' | ⟨id',off,e,xs,v,hloc,hv⟩)
  · obtain ⟨j,hj⟩:=List.mem_iff_getElem?.1 hm'
    obtain ⟨h1,h2⟩:=hMt j b hj
    have hj1:=(List.getElem?_eq_some_iff.1 h1)
    have hj2:=(List.getElem?_eq_some_iff.1 hb)
    obtain ⟨l1,e1⟩:=hj1
    obtain ⟨l2,e2⟩:=hj2
    have:=(List.getElem_inj (h₀:=l1) (h₁:=l2) h.nodup).1 (e1.trans e2.symm)
    omega
  · obtain ⟨⟨_,_,_,_,_,h3⟩,_⟩:=h.own _ _ _ _ (locP _ _ _ _ hloc).1
    exact (h3 b hv).1 (List.mem_of_getElem? hb)
 have oldM:∀ id b,m<=id->M[id]?=some b->w'.heap[b]?=w.heap[b]?:=fun id b hid hb=>hg.block b (freeM id b hid hb).1 (freeM id b hid hb).2
 -- the places that the call did not know
 have old:∀ l e xs v,(∀ id off,l=.box id off->m<=id)->LocAt ⟨st.env,bx1++st.bx.drop m⟩ M a w' l (.osl e xs) v ->
  LocAt st M a w l (.osl e xs) v∧∀ g,v.ownBlock=some g->g < w.heap.size∧¬ Touch ⟨[],st.bx.take m⟩ (M.take m) ⟨#[],[]⟩ w g:=by
  intro l e xs v hid hloc
  have h0:LocAt st M a w l (.osl e xs) v:=by
   cases l with
   | tmp t=>exact hloc
   | box id off=>
    have hid:=hid id off rfl
    obtain ⟨cs,b,h1,h2,h3,h4⟩:=hloc
    refine ⟨cs,b,?_,h2,h3,?_⟩
    · unfold boxCells at h1 ⊢
      simp only at h1
      rw [List.getElem?_append_right (by omega),List.getElem?_drop,hl,show m+(id - m)=id from by omega] at h1
      exact h1
    · rw [World.cell?_of_block (a:=⟨b,off,none⟩) (oldM id b hid h3)] at h4
      exact h4
  refine ⟨h0,fun g hg'=>?_⟩
  obtain ⟨h1,h2⟩:=h.own _ _ _ _ h0
  refine ⟨h1.lt hg',?_⟩
  rintro (hm' | ⟨id',off',e',xs',v',hl',hv'⟩)
  · obtain ⟨i,vals,_,_,_,h3⟩:=h1
    exact (h3 g hg').1 (List.mem_of_mem_take hm')
  · obtain ⟨q1,q2⟩:=locP _ _ _ _ hl'
    have:=h.apart _ _ _ _ _ _ _ _ g h0 q1 hg' hv'
    have:=hid id' off' this
    omega
 have new:∀ id off e xs v,id < m->LocAt ⟨st.env,bx1++st.bx.drop m⟩ M a w' (.box id off) (.osl e xs) v->LocAt ⟨[],bx1⟩ (M.take m) ⟨#[],[]⟩ w' (.box id off) (.osl e xs) v:=by
  rintro id off e xs v hid ⟨cs,b,h1,h2,h3,h4⟩
  refine ⟨cs,b,?_,h2,?_,h4⟩
  · unfold boxCells at h1 ⊢
    simp only at h1 ⊢
    rw [List.getElem?_append_left (by omega)] at h1
    exact h1
  · rw [List.getElem?_take_of_lt hid];exact h3
 have hmono:∀ id b:Nat,(M.take m)[id]?=some b->M[id]?=some b:=fun id b hb=>(hMt id b hb).1
 refine ⟨⟨hh.holds,hh.glob,h.gw.keep (fun k hk hnT=>hg.block k (Nat.lt_of_lt_of_le hk h.hB) (fun e=>by rcases tkT k (.inr e) with h | h;omega;exact hnT h)),h.size,h.dfr,fun t=>(h.env t).mono hg.store (fun _ _ x=>x),?_,fun id bx hb=>?_,h.nodup,fun b hb o=>?_,h.mT,Nat.le_trans h.hB hg.size,fun l e xs v hloc=>?_,fun l l' e e' xs xs' v v' g hloc hloc' hv hv'=>?_⟩,⟨hg.os,hg.tape,hg.output,hg.size,fun k hk hnT=>?_,hg.store,fun k hk hnT=>?_⟩,oldM⟩
 · simp only [List.length_append,List.length_drop];omega
 · simp only at hb
   rcases Nat.lt_or_ge id m with hid | hid
   · rw [List.getElem?_append_left (by omega)] at hb
     obtain ⟨b,h1,h2⟩:=hh.boxes id bx hb
     refine ⟨b,hmono id b h1,?_⟩
     cases h2 with
     | cells te cs b c h3 l h4 hr=>exact .cells te cs b c h3 l h4 (fun i hi hi'=>(hr i hi hi').mono (Store.le.refl _) hmono)
     | iter s pos b h3=>exact .iter s pos b h3
     | mp es b c k h3 l hr=>exact .mp es b c k h3 l (fun i hi hi'=>⟨(hr i hi hi').1.mono (Store.le.refl _) hmono,(hr i hi hi').2.mono (Store.le.refl _) hmono⟩)
   · rw [List.getElem?_append_right (by omega),List.getElem?_drop,hl,show m+(id - m)=id from by omega] at hb
     obtain ⟨b,h1,h2⟩:=h.boxes id bx hb
     exact ⟨b,h1,h2.kept hg.store (oldM id b hid h1)⟩
 · obtain ⟨id,hid⟩:=List.mem_iff_getElem?.1 hb
   rcases Nat.lt_or_ge id m with hlt | hge
   · exact hh.mS b (List.mem_of_getElem? (by rw [List.getElem?_take_of_lt hlt];exact hid)) o
   · obtain ⟨f1,f2⟩:=freeM id b hge hid
     rw [hg.same b f1 f2]
     exact h.mS b hb o
 · by_cases hc:∀ id off,l=.box id off->m<=id
   · obtain ⟨h0,f⟩:=old l e xs v hc hloc
     obtain ⟨h1,h2⟩:=h.own _ _ _ _ h0
     exact ⟨h1.kept fun g hg'=>⟨hg.block g (f g hg').1 (f g hg').2,hg.same g (f g hg').1 (f g hg').2⟩,h2⟩
   · cases l with
     | tmp t=>exact absurd (fun id off e=>by cases e) hc
     | box id off=>
      have hid:id < m:=by
       rcases Nat.lt_or_ge id m with h1 | h1
       · exact h1
       · exact absurd (fun id' off' e=>by injection e with e1 e2;omega) hc
      obtain ⟨h1,h2⟩:=hh.own _ _ _ _ (new id off e xs v hid hloc)
      refine ⟨?_,fun g hg'=>tkT g (h2 g hg')⟩
      obtain ⟨i,vals,hi,hrow,hx,hgg⟩:=h1
      refine ⟨i,vals,hi,hrow,hx,fun g hg'=>⟨fun hmem=>?_,(hgg g hg').2⟩⟩
      obtain ⟨j,hj⟩:=List.mem_iff_getElem?.1 hmem
      rcases Nat.lt_or_ge j m with hlt | hge
      · exact (hgg g hg').1 (List.mem_of_getElem? (by rw [List.getElem?_take_of_lt hlt];exact hj))
      · obtain ⟨f1,f2⟩:=freeM j g hge hj
        rcases h2 g hg' with h5 | h5
        · omega
        · exact f2 h5
 · have cross:∀ {l1 l2:Loc} {e1 e2:TypeId} {xs1 xs2:List PV} {v1 v2:Value},(∀ id off,l1=.box id off->m<=id)->(∃ id off,l2=.box id off∧id < m)->LocAt ⟨st.env,bx1++st.bx.drop m⟩ M a w' l1 (.osl e1 xs1) v1 ->
    LocAt ⟨st.env,bx1++st.bx.drop m⟩ M a w' l2 (.osl e2 xs2) v2->v1.ownBlock=some g->v2.ownBlock=some g->False:=by
    rintro l1 l2 e1 e2 xs1 xs2 v1 v2 c1 ⟨id,off,rfl,hid⟩ k1 k2 g1 g2
    obtain ⟨f1,f2⟩:=(old l1 e1 xs1 v1 c1 k1).2 g g1
    rcases (hh.own _ _ _ _ (new id off e2 xs2 v2 hid k2)).2 g g2 with h5 | h5
    · omega
    · exact f2 h5
   have dec:∀ l:Loc,(∀ id off,l=.box id off->m<=id)∨∃ id off,l=.box id off∧id < m:=by
    intro l
    cases l with
    | tmp t=>exact .inl (fun _ _ e=>by cases e)
    | box id off=>
     rcases Nat.lt_or_ge id m with h1 | h1
     · exact .inr ⟨id,off,rfl,h1⟩
     · exact .inl (fun id' off' e=>by injection e with e1 e2;omega)
   rcases dec l with c | c <;> rcases dec l' with c' | c'
   · exact h.apart _ _ _ _ _ _ _ _ g (old l e xs v c hloc).1 (old l' e' xs' v' c' hloc').1 hv hv'
   · exact (cross c c' hloc hloc' hv hv').elim
   · exact (cross c' c hloc' hloc hv' hv).elim
   · obtain ⟨id,off,rfl,hid⟩:=c
     obtain ⟨id',off',rfl,hid'⟩:=c'
     exact hh.apart _ _ _ _ _ _ _ _ g (new id off e xs v hid hloc) (new id' off' e' xs' v' hid' hloc') hv hv'
 · have:=h.hB
   exact hg.block k (by omega) (fun ht=>by rcases tkT k (.inr ht) with h5 | h5;omega;exact hnT h5)
 · have:=h.hB
   exact hg.same k (by omega) (fun ht=>by rcases tkT k (.inr ht) with h5 | h5;omega;exact hnT h5)
theorem step_cut (h:Sim C D B T S M n st a w) {o:Oper} (hd:∀ k,o.dst=some k->k < n) {al:List (Nat×Loc)} (hal:AlOK M a w al) {call:CallT} (hcall:CallSound C call)
 {f:Operand} {args:Array Operand} {argTypes:Array TypeId} (ho:o.op=.call { callee:=.value f,args,argTypes }) {k:FuncId} {vs:List PV} (hcl:calleeP C st.env { callee:=.value f,args,argTypes }=some (k,vs))
 {m:Nat} (hcut:cutAt C k vs al st.bx=some m) {cr:CR} {bx:List PBox} (hco:callOp C call k vs (st.bx.take m)=some (cr,bx)) (hlen:bx.length=m) (hu:cr.under m=true) (hbu:bx.all (·.under m)=true)
 (K:Act->World->Prop) (Q:Exit->Act->World->Prop)
 (hK:match cr with
  | .ret v=>∀ S' M' a' w',Sim C D B T S' M' n ((St.mk st.env (bx++st.bx.drop m)).put o.dst v) a' w'->Grows B T S w S' w'->M <+: M'->AlOK M' a' w' (killT al o.dst)->K a' w'
  | .pan v=>∀ S' M' a' w' x u,Sim C D B T S' M' n ⟨st.env,bx++st.bx.drop m⟩ a' w'->Grows B T S w S' w'->M <+: M'->Rep S' M' v u->x=[{ v:=u,recovered:=false }]->Q (.panic x) a' w'):o.wp C.P a w K Q:=by
 unfold cutAt at hcut
 split at hcut
 · cases hcut
 rename_i m' hbm
 split at hcut
 rotate_left
 · cases hcut
 rename_i hcond
 injection hcut with hcut
 subst hcut
 simp only [Bool.and_eq_true] at hcond
 obtain ⟨hheap,huv,hub⟩:=hcond
 obtain ⟨hmin,p0,hp0,off0,hp0e⟩:=boxMin_le hbm
 have hml:m' < M.length:=by
  have:=hal p0 hp0
  rw [hp0e] at this
  obtain ⟨b,hb,_⟩:=this
  exact (List.getElem?_eq_some_iff.1 hb).1
 have hbl:=h.mlen
 have htl:(M.take m').length=m':=by simp;omega
 have htb:(st.bx.take m').length=m':=by simp;omega
 have hst:HSim C B T S (M.take m') (st.bx.take m') w:=by
  have:=HSim.trunc (M:=M.take m') h.heapOnly (List.take_prefix m' M) (by rw [htl];exact hub)
  rw [htl] at this
  exact this
 have hco2:∃ bx2,call k vs (st.bx.take m')=some (cr,bx2)∧bx=bx2.take m'∧((bx2.take m').all (·.under m'))=true:=by
  unfold callOp at hco
  rw [if_pos hheap] at hco
  split at hco
  · rename_i r1 bx2 hc1
    injection hco with hco
    injection hco with e1 e2
    subst e1
    rw [htb] at e2
    refine ⟨bx2,hc1,?_⟩
    unfold truncB at e2
    split at e2
    · rename_i hc
      simp only [Bool.and_eq_true] at hc
      exact ⟨e2.symm,hc.2⟩
    · subst e2
      have:bx2.take m'=bx2:=List.take_of_length_le (by omega)
      rw [this]
      exact ⟨rfl,hbu⟩
  · cases hco
 obtain ⟨bx2,hc1,rfl,hall⟩:=hco2
 obtain ⟨⟨fn,c,hf,hname,hb⟩,hs⟩:=hcall k vs _ cr bx2 hc1
 obtain ⟨us,hus,hno,hrun⟩:=resolve_run h hcl o.type hf hname hb
 have back:∀ id b:Nat,id < m'->M[id]?=some b->(M.take m')[id]?=some b:=fun id b hid hb=>by rw [List.getElem?_take_of_lt hid];exact hb
 have hus':RepL S (M.take m') vs us:=⟨hus.1,fun i x y=>(hus.2 i x y).ofUnder m' _ back (underL_get huv i x)⟩
 unfold Oper.wp
 rw [execOp,ho,hrun]
 refine (hs hno _ _ _ _ us w hst.sharedStart hus').mono fun e w' ⟨S',M',hh,hg,hp,hout⟩=>?_
 have hh':=HSim.trunc hh hp (by rw [htl];exact hall)
 rw [htl] at hh'
 obtain ⟨h1,h2,h3⟩:=h.afterCut (Nat.le_of_lt hml) hst hh' hg
 have bk:∀ id b:Nat,id < m'->M'[id]?=some b->M[id]?=some b:=fun id b hid hb=>by
  obtain ⟨t,rfl⟩:=hp
  rw [List.getElem?_append_left (by rw [htl];exact hid),List.getElem?_take_of_lt hid] at hb
  exact hb
 cases cr with
 | ret v=>
  obtain ⟨hosl,u,rfl,hrep⟩:=hout
  show K (a.put o.dst u) w'
  have hrep':=hrep.ofUnder m' M bk hu
  refine hK S' M _ w' (h1.put o.dst hd hrep' hosl) h2 (List.prefix_refl _) ?_
  intro p hpm
  obtain ⟨m1,m2⟩:=killT_mem hpm
  have hc:=hal p m1
  have hmp:=hmin p m1
  obtain ⟨d',l⟩:=p
  cases l with
  | tmp t=>
   simp only [ConcEq] at hc ⊢
   rw [put_get h.size hd _ (fun k hk=>(m2 k hk).1),put_get h.size hd _ (fun k hk=>by simpa using (m2 k hk).2)]
   exact hc
  | box id off=>
   obtain ⟨b,e1,e2⟩:=hc
   refine ⟨b,e1,?_⟩
   rw [put_get h.size hd _ (fun k hk=>(m2 k hk).1),World.cell?_of_block (a:=⟨b,off,none⟩) (h3 id b (hmp id off rfl) e1)]
   exact e2
 | pan v=>
  obtain ⟨u,rfl,hrep⟩:=hout
  exact hK S' M a w' _ u h1 h2 (List.prefix_refl _) (hrep.ofUnder m' M bk hu) rfl
theorem step_call (h:Sim C D B T S M n st a w) {o:Oper} (hd:∀ k,o.dst=some k->k < n) {al:List (Nat×Loc)} (hal:AlOK M a w al) {call:CallT} (hcall:CallSound C call)
 {f:Operand} {args:Array Operand} {argTypes:Array TypeId} (ho:o.op=.call { callee:=.value f,args,argTypes }) (draw:Bool) {r:OpR} (hr:stepOp C call draw al o st=some r) :
 StepTo C D B T S M n a w o r:=by
 intro K Q hK
 unfold stepOp at hr
 rw [ho] at hr
 simp only at hr
 split at hr
 · rename_i k vs hcl
   by_cases hdr:((draw && isFn f) && (C.heap k || !(pureL vs)))=true
   · rw [if_pos hdr] at hr;cases hr
   rw [if_neg hdr] at hr
   split at hr
   · rename_i m hcut
     have hcut:cutAt C k vs al st.bx=some m:=by
      unfold cutO at hcut
      split at hcut
      · exact hcut
      · cases hcut
     split at hr
     · rename_i v bx hco
       split at hr
       · rename_i hc
         simp only [Bool.and_eq_true,decide_eq_true_eq] at hc
         injection hr with hr
         subst hr
         exact step_cut h hd hal hcall ho hcl hcut hco hc.1 hc.2.1 hc.2.2 K Q hK
       · cases hr
     · rename_i v bx hco
       split at hr
       · rename_i hc
         simp only [Bool.and_eq_true,decide_eq_true_eq] at hc
         injection hr with hr
         subst hr
         exact step_cut h hd hal hcall ho hcl hcut hco hc.1 hc.2.1 hc.2.2 K Q hK
       · cases hr
     · cases hr
   rename_i hcut
   clear hcut
   unfold callOp at hr
   split at hr
   · rename_i v bx hco
     split at hco
     · -- it may know the boxes
       rename_i hheap
       split at hco
       · rename_i r1 bx1 hc1
         injection hco with hco
         injection hco with e1 e2
         subst e1
         subst e2
         injection hr with hr
         subst hr
         obtain ⟨⟨fn,c,hf,hname,hb⟩,hs⟩:=hcall k vs st.bx (.ret v) bx1 hc1
         obtain ⟨us,hus,hno,hrun⟩:=resolve_run h hcl o.type hf hname hb
         unfold Oper.wp
         rw [execOp,ho,hrun]
         refine (hs hno _ _ _ _ us w h.sharedStart hus).mono fun e w' ⟨S',M',hh,hg,hp,hout⟩=>?_
         obtain ⟨hosl,u,rfl,hrep⟩:=hout
         show K (a.put o.dst u) w'
         simp only [] at hK
         unfold truncB at hK
         split at hK
         · rename_i hu
           simp only [Bool.and_eq_true,CR.under] at hu
           rw [<- h.mlen] at hu
           have hh':=HSim.trunc hh hp hu.2
           rw [h.mlen] at hh'
           obtain ⟨h1,h2⟩:=h.afterCall hh' hg (List.prefix_refl M)
           have hrep':=hrep.ofUnder M.length M (fun id b hid hb=>by
            obtain ⟨t,rfl⟩:=hp
            rw [List.getElem?_append_left hid] at hb
            exact hb) hu.1
           refine hK S' M _ w' (h1.put o.dst hd hrep' hosl) h2 (List.prefix_refl _) ?_
           unfold callAl;rw [if_pos hheap]
           intro p hpm
           obtain ⟨m1,m2⟩:=killT_mem hpm
           simp only [List.mem_filter] at m1
           obtain ⟨m3,m4⟩:=m1
           have hc:=hal p m3
           obtain ⟨d',l⟩:=p
           cases l with
           | tmp t=>
            simp only [ConcEq] at hc ⊢
            rw [put_get h.size hd _ (fun k hk=>(m2 k hk).1),put_get h.size hd _ (fun k hk=>by simpa using (m2 k hk).2)]
            exact hc
           | box id off=>simp at m4
         · obtain ⟨h1,h2⟩:=h.afterCall hh hg hp
           refine hK S' M' _ w' (h1.put o.dst hd hrep hosl) h2 hp ?_
           unfold callAl;rw [if_pos hheap]
           intro p hpm
           obtain ⟨m1,m2⟩:=killT_mem hpm
           simp only [List.mem_filter] at m1
           obtain ⟨m3,m4⟩:=m1
           have hc:=hal p m3
           obtain ⟨d',l⟩:=p
           cases l with
           | tmp t=>
            simp only [ConcEq] at hc ⊢
            rw [put_get h.size hd _ (fun k hk=>(m2 k hk).1),put_get h.size hd _ (fun k hk=>by simpa using (m2 k hk).2)]
            exact hc
           | box id off=>simp at m4
       · cases hco
     · rename_i hheap
       split at hco
       · rename_i r1 b0 hc1
         split at hco
         · rename_i hpure
           injection hco with hco
           injection hco with e1 e2
           injection e1 with e1
           subst e1
           subst e2
           injection hr with hr
           subst hr
           obtain ⟨⟨fn,c,hf,hname,hb⟩,hs⟩:=hcall k vs [] (.ret r1) b0 hc1
           obtain ⟨us,hus,hno,hrun⟩:=resolve_run h hcl o.type hf hname hb
           unfold Oper.wp
           rw [execOp,ho,hrun]
           have hpv:pureL vs=true:=by
            simp only [Bool.or_eq_true,Bool.not_eq_true',not_or] at hheap
            simpa using hheap.2
           refine (hs hno _ _ _ _ us w h.apartStart (hus.ofPure [] hpv)).mono fun e w' ⟨S',M',hh,hg,hp,hout⟩=>?_
           obtain ⟨hosl,u,rfl,hrep⟩:=hout
           show K (a.put o.dst u) w'
           have hk:=Grows.kept hg hh.holds
           refine hK S' M _ w' ((h.kept hk).put o.dst hd (hrep.ofPure M hpure) hosl) (hk.grows h.hB) (List.prefix_refl _) ?_
           unfold callAl;rw [if_neg hheap]
           exact hal.put h.size hd _ (fun _ _ x=>x) (fun b hb=>hk.block b (h.mlt hb))
         · cases hco
       · cases hco
   · rename_i v bx hco
     split at hco
     · rename_i hheap
       split at hco
       · rename_i r1 bx1 hc1
         injection hco with hco
         injection hco with e1 e2
         subst e1
         subst e2
         injection hr with hr
         subst hr
         obtain ⟨⟨fn,c,hf,hname,hb⟩,hs⟩:=hcall k vs st.bx (.pan v) bx1 hc1
         obtain ⟨us,hus,hno,hrun⟩:=resolve_run h hcl o.type hf hname hb
         unfold Oper.wp
         rw [execOp,ho,hrun]
         refine (hs hno _ _ _ _ us w h.sharedStart hus).mono fun e w' ⟨S',M',hh,hg,hp,hout⟩=>?_
         obtain ⟨u,rfl,hrep⟩:=hout
         show Q (.panic [{ v:=u,recovered:=false }]) a w'
         simp only [] at hK
         unfold truncB at hK
         · split at hK
           · rename_i hu
             simp only [Bool.and_eq_true,CR.under] at hu
             rw [<- h.mlen] at hu
             have hh':=HSim.trunc hh hp hu.2
             obtain ⟨h1,h2⟩:=h.afterCall hh' hg (List.prefix_refl M)
             have hrep':=hrep.ofUnder M.length M (fun id b hid hb=>by
              obtain ⟨t,rfl⟩:=hp
              rw [List.getElem?_append_left hid] at hb
              exact hb) hu.1
             exact hK S' M a w' _ u (by rw [<- h.mlen];exact h1) h2 (List.prefix_refl _) hrep' rfl
           · obtain ⟨h1,h2⟩:=h.afterCall hh hg hp
             exact hK S' M' a w' _ u h1 h2 hp hrep rfl
       · cases hco
     · split at hco
       · split at hco
         · injection hco with hco;injection hco with e1 e2;cases e1
         · cases hco
       · cases hco
   · cases hr
 · cases hr
end
end Go.HH
