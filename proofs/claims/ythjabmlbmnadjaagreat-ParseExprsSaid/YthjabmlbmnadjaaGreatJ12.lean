/-
  What the law needs, packed: Step4.
-/
import Derived.Test.YthjabmlbmnadjaaGreatJ11
open List renaming getElem?_append_right->yW,getElem?_append_left->yX,prefix_append->yY,getElem?_eq_none->yZ,mem_of_getElem?->y0,mem_append->y2
open Go.Result renaming andThen_ok->y1
open Go.World renaming cell?_of_block->y3
open Go.Sem renaming run_pure->y4,run_bind->y5
open Nat renaming eq_zero_or_pos->y6
namespace Go.HH
open Go Go.RowKit
section
variable {C:Cfg} {D:List Deferred} {B:Nat} {T:Nat->Prop} {S:AY} {M:List Nat} {n:Nat} {st:St} {a:Act} {w:World}
theorem GB {M M':List Nat} (h:M <+: M') (id b:Nat) (hb:M[id]?=some b):M'[id]?=some b:=by
 obtain ⟨t,rfl⟩:=h
 have hl:id < M.length:=by
  rcases Nat.lt_or_ge id M.length with h | h
  · exact h
  · rw [yZ h] at hb;cases hb
 rw [yX hl];exact hb
theorem Mi {bx:List PBox} {x:PBox} {id:Nat} (h:id < bx.length):Bg (bx++[x]) id=Bg bx id:=by
 simp [Bg,yX h]
theorem Sim.newBox (h:Sim C D B T S M n st a w) (obj:Obj) (bx:PBox) (P9:BoxAt S (M++[w.heap.size]) (w.alloc obj) bx w.heap.size)
 (HM:∀ t cs,bx=.cells t cs->∀ p ∈ cs,∀ e xs,p≠.osl e xs):Sim C D B T S (M++[w.heap.size]) n ⟨st.env,st.bx++[bx]⟩ a (w.alloc obj):=by
 have hold:∀ k,k < w.heap.size->(w.alloc obj).heap[k]?=w.heap[k]?:=fun k hk=>heap_alloc_old w obj k hk;have CY:∀ (id b:Nat),M[id]?=some b->(M++[w.heap.size])[id]?=some b:=fun id b hb=>GB (yY _ _) id b hb;have hM:∀ b,b ∈ M->(w.alloc obj).heap[b]?=w.heap[b]?:=fun b hb=>hold b (h.mlt hb)
 have loc:∀ l e xs v,LocAt ⟨st.env,st.bx++[bx]⟩ (M++[w.heap.size]) a (w.alloc obj) l (.osl e xs) v->LocAt st M a w l (.osl e xs) v:=by
  intro l e xs v hl;cases l with
  | tmp t=>exact hl
  | box id off=>
   obtain ⟨cs,b,h1,h2,h3,h4⟩:=hl;by_cases Ad:id < st.bx.length
   · rw [Mi Ad] at h1
     have rK:id < M.length:=by rw [h.mlen];exact Ad
     rw [yX rK] at h3;refine ⟨cs,b,h1,h2,h3,?_⟩;rw [y3 (a:=⟨b,off,none⟩) (hM b (y0 h3))] at h4;exact h4
   · exfalso
     unfold Bg at h1;split at h1
     · rename_i cs' hg
       injection h1 with h1
       subst h1;rw [yW (by omega)] at hg
       have:id - st.bx.length=0:=by
        rcases y6 (id - st.bx.length) with hh | hh
        · exact hh
        · rw [yZ (by simp;omega)] at hg;cases hg
       rw [this] at hg;simp at hg;exact HM _ _ hg (.osl e xs) (y0 h2) e xs rfl
     · cases h1
 refine ⟨fun b o v hv=>?_,h.glob,h.gw.keep (fun b hb _=>hold b (Nat.lt_of_lt_of_le hb h.hB)),h.size,h.dfr,fun t=>(h.env t).mono (AY.le.refl _) CY,by simp [h.mlen],fun id x hx=>?_,?_,fun b hb o=>?_,fun b hb=>?_,by simp;have:=h.hB;omega,fun l e xs v hl=>?_,fun l l' e e' xs xs' v v' g hl FU=>?_⟩
 · rw [y3 (a:=⟨b,o,none⟩) (hold b (K9 (h.holds b o v hv)))]
   exact h.holds b o v hv
 · by_cases Ad:id < st.bx.length
   · rw [yX Ad] at hx
     obtain ⟨b,h1,h2⟩:=h.boxes id x hx;refine ⟨b,CY id b h1,?_⟩;have h3:=h2.kept (AY.le.refl _) (hM b (y0 h1));cases h3 with
     | cells e cs b c hh l h1 hr=>exact .cells e cs b c hh l h1 (fun i x y=>(hr i x y).mono (AY.le.refl _) CY)
     | iter s pos b hh=>exact .iter s pos b hh
   · rw [yW (by omega)] at hx
     have h0:id - st.bx.length=0:=by
      rcases y6 (id - st.bx.length) with hh | hh
      · exact hh
      · rw [yZ (by simp;omega)] at hx;cases hx
     rw [h0] at hx;simp at hx;subst hx;refine ⟨w.heap.size,?_,P9⟩;rw [yW (by rw [h.mlen];omega),h.mlen,h0];rfl
 · rw [List.nodup_append]
   exact ⟨h.nodup,by simp,fun x hx y hy=>by simp at hy;subst hy;have:=h.mlt hx;omega⟩
 · rcases y2.1 hb with hb | hb
   · exact h.mS b hb o
   · simp at hb;subst hb;exact Qh h.holds _ (Nat.le_refl _) o
 · rcases y2.1 hb with hb | hb
   · exact h.mT b hb
   · simp at hb;subst hb;exact .inl h.hB
 · obtain ⟨h1,h2⟩:=h.own l e xs v (loc l e xs v hl)
   refine ⟨?_,h2⟩;obtain ⟨i,vals,hi,HC,hx,hg⟩:=h1.kept (S':=S) (w':=w.alloc obj) (fun g hg=>⟨hold g (h1.lt hg),fun _=>rfl⟩)
   exact ⟨i,vals,hi,HC,hx,fun g e=>⟨fun hm=>by
    rcases y2.1 hm with hm | hm
    · exact (hg g e).1 hm
    · simp at hm;have:=h1.lt e;omega,(hg g e).2⟩⟩
 · exact h.apart l l' e e' xs xs' v v' g (loc _ _ _ _ hl) (loc _ _ _ _ FU)
theorem Qi (h:Sim C D B T S M n st a w) (obj:Obj):Grows B T S w S (w.alloc obj):=
 ⟨rfl,rfl,rfl,by simp,fun k hk _=>heap_alloc_old w obj k (by have:=h.hB;omega),AY.le.refl _,fun _ _ _ _=>rfl⟩
theorem WW {cs:List PV} {c:Array Value} (h:Gm S M cs c):Gm S M (cs.map PV.ro) c:=
 ⟨by simpa using h.1,h.2.1,fun i h1 h2=>by simpa using (h.2.2 i (by simpa using h1) h2).ro⟩
theorem MT (h:Sim C D B T S M n st a w) {o:Oper} (hd:∀ k,o.dst=some k->k < n) {al:List (Nat×Loc)} (Hb:Hu M a w al) {cs:List PV} {c:Array Value} {e:TypeId} (hc:Gm S M cs c)
 (HM:∀ p ∈ cs,∀ e xs,p≠.osl e xs)
 (hv:(execOp a.eval o).run C.P w=.ok (.value (.pointer (some ⟨w.heap.size,0,none⟩))) (w.alloc (.cells c e))) :
 F5 C D B T S M n a w o (.next ((St.mk st.env (st.bx++[.cells e cs])).put o.dst (.bp st.bx.length 0)) (Ap al o.dst)):=by
 intro K Q hK;have CY:∀ (id b:Nat),M[id]?=some b->(M++[w.heap.size])[id]?=some b:=fun id b hb=>GB (yY _ _) id b hb;have hs:=h.newBox (.cells c e) (.cells e cs) (.cells e cs _ c (heap_alloc_new w _) hc.1 hc.2.1 (fun i x y=>(hc.2.2 i x y).mono (AY.le.refl _) CY)) (fun t' cs' he=>by injection he with _ he;subst he;exact HM);refine CG hv (hK S (M++[w.heap.size]) _ _ (hs.put o.dst hd (.bp _ _ w.heap.size ?_) (fun e xs=>by simp)) (Qi h _) (yY _ _) ?_)
 · rw [yW (by rw [h.mlen];omega),h.mlen];simp
 · exact Hb.put h.size hd _ CY (fun b hb=>heap_alloc_old w _ b (h.mlt hb))
theorem Nh {p:PV} (h:(p.cells.map PV.ro).all PV.one=true):p.val=true:=by
 cases p <;> simp_all [PV.cells,PV.ro,PV.one,PV.val]
theorem Pj (cs:List PV):∀ p ∈ cs.map PV.ro,∀ e xs,p≠.osl e xs:=by
 intro p hp e xs;obtain ⟨q,_,rfl⟩:=List.mem_map.1 hp;exact Ng q e xs
theorem ji (h:Sim C D B T S M n st a w) {o:Oper} (hd:∀ k,o.dst=some k->k < n) {al:List (Nat×Loc)} (Hb:Hu M a w al) {t:TypeId} {x:Operand} (ho:o.op=.box t x)
 (h1:(((opd C st.env x).cells.map PV.ro).all PV.one)=true) :
 F5 C D B T S M n a w o (.next ((St.mk st.env (st.bx++[.cells t ((opd C st.env x).cells.map PV.ro)])).put o.dst (.bp st.bx.length 0)) (Ap al o.dst)):=by
 have hx:=h.opd x;refine MT h hd Hb (c:=(a.eval x).cells) (e:=t) (WW (hx.cells (Nh h1))) (Pj _) ?_;rw [execOp,ho];simp only [Instr.box,newVar,newRow,y5,run_newObj,y4,y1];rfl
theorem bP (h:Sim C D B T S M n st a w) {o:Oper} (hd:∀ k,o.dst=some k->k < n) {al:List (Nat×Loc)} (Hb:Hu M a w al) {t:TypeId} (ho:o.op=.alloc t) {z:PV} (hz:tZero C t=some z)
 (h1:((z.cells.map PV.ro).all PV.one)=true) :
 F5 C D B T S M n a w o (.next ((St.mk st.env (st.bx++[.cells t (z.cells.map PV.ro)])).put o.dst (.bp st.bx.length 0)) (Ap al o.dst)):=by
 obtain ⟨i,v,hi,my,rfl⟩:=HX hz;refine MT h hd Hb (c:=v.cells) (e:=t) (WW ((Rep.cval (S:=S) (M:=M) v).cells (Nh h1))) (Pj _) ?_;rw [execOp,ho];simp only [Instr.alloc,zeroValue,typeInfo,hi,my,newVar,newRow,y5,run_program,run_newObj,y4,y1];rfl
theorem bQ (h:Sim C D B T S M n st a w) {o:Oper} (hd:∀ k,o.dst=some k->k < n) {al:List (Nat×Loc)} (Hb:Hu M a w al) {t:TypeId} {x:Operand} (ho:o.op=.range t x)
 {s:List UInt8} (ht:C.P.underlying t=some .string) (hs:opd C st.env x=.str s) :
 F5 C D B T S M n a w o (.next ((St.mk st.env (st.bx++[.iter s 0])).put o.dst (.bp st.bx.length 0)) (Ap al o.dst)):=by
 intro K Q hK;have hx:=h.opd x;rw [hs] at hx
 have hv:(execOp a.eval o).run C.P w=.ok (.value (.pointer (some ⟨w.heap.size,0,none⟩))) (w.alloc (.stringIter ⟨s.toArray⟩ 0)):=by
  rw [execOp,ho];simp only [hx.str_inv,Instr.range,y5,AS ht,run_newObj,y4,y1];rfl
 have CY:∀ (id b:Nat),M[id]?=some b->(M++[w.heap.size])[id]?=some b:=fun id b hb=>GB (yY _ _) id b hb;have hs:=h.newBox (.stringIter ⟨s.toArray⟩ 0) (.iter s 0) (.iter s 0 _ (heap_alloc_new w _)) (fun t' cs' he=>by cases he);refine CG hv (hK S (M++[w.heap.size]) _ _ (hs.put o.dst hd (.bp _ _ w.heap.size ?_) (fun e xs=>by simp)) (Qi h _) (yY _ _) ?_)
 · rw [yW (by rw [h.mlen];omega),h.mlen];simp
 · exact Hb.put h.size hd _ CY (fun b hb=>heap_alloc_old w _ b (h.mlt hb))
end
end Go.HH
