/-
  What the law needs, packed: Step4.
-/
import Derived.Test.YthjcaihemgllaaaGreatDoorJ11
open List renaming getElem?_append_right->Aa0,getElem?_append_left->Aa1,prefix_append->Aa2,getElem?_eq_none->Aa3,mem_of_getElem?->Aa4,mem_append->Aa6
open Go.Result renaming andThen_ok->Aa5
open Go.World renaming cell?_of_block->Aa7
open Go.Sem renaming run_pure->Aa8,run_bind->Aa9
open Nat renaming eq_zero_or_pos->Aaa
namespace Go.HH
open Go Go.RowKit
section
variable {C:Cfg} {D:List Deferred} {B:Nat} {T:Nat->Prop} {S:AI} {M:List Nat} {n:Nat} {st:St} {a:Act} {w:World}
theorem FZ {M M':List Nat} (h:M <+: M') (id b:Nat) (hb:M[id]?=some b):M'[id]?=some b:=by
 obtain ⟨t,rfl⟩:=h
 have hl:id < M.length:=by
  rcases Nat.lt_or_ge id M.length with h | h
  · exact h
  · rw [Aa3 h] at hb;cases hb
 rw [Aa1 hl];exact hb
theorem Li {bx:List PBox} {x:PBox} {id:Nat} (h:id < bx.length):A0 (bx++[x]) id=A0 bx id:=by
 simp [A0,Aa1 h]
theorem Sim.newBox (h:Sim C D B T S M n st a w) (obj:Obj) (bx:PBox) (OT:BoxAt S (M++[w.heap.size]) (w.alloc obj) bx w.heap.size)
 (GU:∀ t cs,bx=.cells t cs->∀ p ∈ cs,∀ e xs,p≠.osl e xs):Sim C D B T S (M++[w.heap.size]) n ⟨st.env,st.bx++[bx]⟩ a (w.alloc obj):=by
 have hold:∀ k,k < w.heap.size->(w.alloc obj).heap[k]?=w.heap[k]?:=fun k hk=>heap_alloc_old w obj k hk;have Dw:∀ (id b:Nat),M[id]?=some b->(M++[w.heap.size])[id]?=some b:=fun id b hb=>FZ (Aa2 _ _) id b hb;have hM:∀ b,b ∈ M->(w.alloc obj).heap[b]?=w.heap[b]?:=fun b hb=>hold b (h.mlt hb)
 have loc:∀ l e xs v,LocAt ⟨st.env,st.bx++[bx]⟩ (M++[w.heap.size]) a (w.alloc obj) l (.osl e xs) v->LocAt st M a w l (.osl e xs) v:=by
  intro l e xs v hl;cases l with
  | tmp t=>exact hl
  | box id off=>
   obtain ⟨cs,b,h1,h2,h3,h4⟩:=hl;by_cases hid:id < st.bx.length
   · rw [Li hid] at h1
     have uh:id < M.length:=by rw [h.mlen];exact hid
     rw [Aa1 uh] at h3;refine ⟨cs,b,h1,h2,h3,?_⟩;rw [Aa7 (a:=⟨b,off,none⟩) (hM b (Aa4 h3))] at h4;exact h4
   · exfalso
     unfold A0 at h1;split at h1
     · rename_i cs' hg
       injection h1 with h1
       subst h1;rw [Aa0 (by omega)] at hg
       have:id - st.bx.length=0:=by
        rcases Aaa (id - st.bx.length) with hh | hh
        · exact hh
        · rw [Aa3 (by simp;omega)] at hg;cases hg
       rw [this] at hg;simp at hg;exact GU _ _ hg (.osl e xs) (Aa4 h2) e xs rfl
     · cases h1
 refine ⟨fun b o v hv=>?_,h.glob,h.gw.keep (fun b hb _=>hold b (Nat.lt_of_lt_of_le hb h.hB)),h.size,h.dfr,fun t=>(h.env t).mono (AI.le.refl _) Dw,by simp [h.mlen],fun id x hx=>?_,?_,fun b hb o=>?_,fun b hb=>?_,by simp;have:=h.hB;omega,fun l e xs v hl=>?_,fun l l' e e' xs xs' v v' g hl D4=>?_⟩
 · rw [Aa7 (a:=⟨b,o,none⟩) (hold b (Ik (h.holds b o v hv)))]
   exact h.holds b o v hv
 · by_cases hid:id < st.bx.length
   · rw [Aa1 hid] at hx
     obtain ⟨b,h1,h2⟩:=h.boxes id x hx;refine ⟨b,Dw id b h1,?_⟩;have h3:=h2.kept (AI.le.refl _) (hM b (Aa4 h1));cases h3 with
     | cells e cs b c hh l h1 hr=>exact .cells e cs b c hh l h1 (fun i x y=>(hr i x y).mono (AI.le.refl _) Dw)
     | iter s pos b hh=>exact .iter s pos b hh
   · rw [Aa0 (by omega)] at hx
     have h0:id - st.bx.length=0:=by
      rcases Aaa (id - st.bx.length) with hh | hh
      · exact hh
      · rw [Aa3 (by simp;omega)] at hx;cases hx
     rw [h0] at hx;simp at hx;subst hx;refine ⟨w.heap.size,?_,OT⟩;rw [Aa0 (by rw [h.mlen];omega),h.mlen,h0];rfl
 · rw [List.nodup_append]
   exact ⟨h.nodup,by simp,fun x hx y hy=>by simp at hy;subst hy;have:=h.mlt hx;omega⟩
 · rcases Aa6.1 hb with hb | hb
   · exact h.mS b hb o
   · simp at hb;subst hb;exact O2 h.holds _ (Nat.le_refl _) o
 · rcases Aa6.1 hb with hb | hb
   · exact h.mT b hb
   · simp at hb;subst hb;exact .inl h.hB
 · obtain ⟨h1,h2⟩:=h.own l e xs v (loc l e xs v hl)
   refine ⟨?_,h2⟩;obtain ⟨i,vals,hi,GN,hx,hg⟩:=h1.kept (S':=S) (w':=w.alloc obj) (fun g hg=>⟨hold g (h1.lt hg),fun _=>rfl⟩)
   exact ⟨i,vals,hi,GN,hx,fun g e=>⟨fun hm=>by
    rcases Aa6.1 hm with hm | hm
    · exact (hg g e).1 hm
    · simp at hm;have:=h1.lt e;omega,(hg g e).2⟩⟩
 · exact h.apart l l' e e' xs xs' v v' g (loc _ _ _ _ hl) (loc _ _ _ _ D4)
theorem O3 (h:Sim C D B T S M n st a w) (obj:Obj):Grows B T S w S (w.alloc obj):=
 ⟨rfl,rfl,rfl,by simp,fun k hk _=>heap_alloc_old w obj k (by have:=h.hB;omega),AI.le.refl _,fun _ _ _ _=>rfl⟩
theorem VO {cs:List PV} {c:Array Value} (h:FG S M cs c):FG S M (cs.map PV.ro) c:=
 ⟨by simpa using h.1,h.2.1,fun i h1 h2=>by simpa using (h.2.2 i (by simpa using h1) h2).ro⟩
theorem LC (h:Sim C D B T S M n st a w) {o:Oper} (hd:∀ k,o.dst=some k->k < n) {al:List (Nat×Loc)} (Gs:GJ M a w al) {cs:List PV} {c:Array Value} {e:TypeId} (hc:FG S M cs c)
 (GU:∀ p ∈ cs,∀ e xs,p≠.osl e xs)
 (hv:(execOp a.eval o).run C.P w=.ok (.value (.pointer (some ⟨w.heap.size,0,none⟩))) (w.alloc (.cells c e))) :
 Fj C D B T S M n a w o (.next ((St.mk st.env (st.bx++[.cells e cs])).put o.dst (.bp st.bx.length 0)) (Ak al o.dst)):=by
 intro K Q hK;have Dw:∀ (id b:Nat),M[id]?=some b->(M++[w.heap.size])[id]?=some b:=fun id b hb=>FZ (Aa2 _ _) id b hb;have hs:=h.newBox (.cells c e) (.cells e cs) (.cells e cs _ c (heap_alloc_new w _) hc.1 hc.2.1 (fun i x y=>(hc.2.2 i x y).mono (AI.le.refl _) Dw)) (fun t' cs' he=>by injection he with _ he;subst he;exact GU);refine Ce hv (hK S (M++[w.heap.size]) _ _ (hs.put o.dst hd (.bp _ _ w.heap.size ?_) (fun e xs=>by simp)) (O3 h _) (Aa2 _ _) ?_)
 · rw [Aa0 (by rw [h.mlen];omega),h.mlen];simp
 · exact Gs.put h.size hd _ Dw (fun b hb=>heap_alloc_old w _ b (h.mlt hb))
theorem LY {p:PV} (h:(p.cells.map PV.ro).all PV.one=true):p.val=true:=by
 cases p <;> simp_all [PV.cells,PV.ro,PV.one,PV.val]
theorem NO (cs:List PV):∀ p ∈ cs.map PV.ro,∀ e xs,p≠.osl e xs:=by
 intro p hp e xs;obtain ⟨q,_,rfl⟩:=List.mem_map.1 hp;exact LX q e xs
theorem iw (h:Sim C D B T S M n st a w) {o:Oper} (hd:∀ k,o.dst=some k->k < n) {al:List (Nat×Loc)} (Gs:GJ M a w al) {t:TypeId} {x:Operand} (ho:o.op=.box t x)
 (h1:(((opd C st.env x).cells.map PV.ro).all PV.one)=true) :
 Fj C D B T S M n a w o (.next ((St.mk st.env (st.bx++[.cells t ((opd C st.env x).cells.map PV.ro)])).put o.dst (.bp st.bx.length 0)) (Ak al o.dst)):=by
 have hx:=h.opd x;refine LC h hd Gs (c:=(a.eval x).cells) (e:=t) (VO (hx.cells (LY h1))) (NO _) ?_;rw [execOp,ho];simp only [Instr.box,newVar,newRow,Aa9,run_newObj,Aa8,Aa5];rfl
theorem ZY (h:Sim C D B T S M n st a w) {o:Oper} (hd:∀ k,o.dst=some k->k < n) {al:List (Nat×Loc)} (Gs:GJ M a w al) {t:TypeId} (ho:o.op=.alloc t) {z:PV} (hz:tZero C t=some z)
 (h1:((z.cells.map PV.ro).all PV.one)=true) :
 Fj C D B T S M n a w o (.next ((St.mk st.env (st.bx++[.cells t (z.cells.map PV.ro)])).put o.dst (.bp st.bx.length 0)) (Ak al o.dst)):=by
 obtain ⟨i,v,hi,mM,rfl⟩:=G3 hz;refine LC h hd Gs (c:=v.cells) (e:=t) (VO ((Rep.cval (S:=S) (M:=M) v).cells (LY h1))) (NO _) ?_;rw [execOp,ho];simp only [Instr.alloc,zeroValue,typeInfo,hi,mM,newVar,newRow,Aa9,run_program,run_newObj,Aa8,Aa5];rfl
theorem ZZ (h:Sim C D B T S M n st a w) {o:Oper} (hd:∀ k,o.dst=some k->k < n) {al:List (Nat×Loc)} (Gs:GJ M a w al) {t:TypeId} {x:Operand} (ho:o.op=.range t x)
 {s:List UInt8} (ht:C.P.underlying t=some .string) (hs:opd C st.env x=.str s) :
 Fj C D B T S M n a w o (.next ((St.mk st.env (st.bx++[.iter s 0])).put o.dst (.bp st.bx.length 0)) (Ak al o.dst)):=by
 intro K Q hK;have hx:=h.opd x;rw [hs] at hx
 have hv:(execOp a.eval o).run C.P w=.ok (.value (.pointer (some ⟨w.heap.size,0,none⟩))) (w.alloc (.stringIter ⟨s.toArray⟩ 0)):=by
  rw [execOp,ho];simp only [hx.str_inv,Instr.range,Aa9,AH ht,run_newObj,Aa8,Aa5];rfl
 have Dw:∀ (id b:Nat),M[id]?=some b->(M++[w.heap.size])[id]?=some b:=fun id b hb=>FZ (Aa2 _ _) id b hb;have hs:=h.newBox (.stringIter ⟨s.toArray⟩ 0) (.iter s 0) (.iter s 0 _ (heap_alloc_new w _)) (fun t' cs' he=>by cases he);refine Ce hv (hK S (M++[w.heap.size]) _ _ (hs.put o.dst hd (.bp _ _ w.heap.size ?_) (fun e xs=>by simp)) (O3 h _) (Aa2 _ _) ?_)
 · rw [Aa0 (by rw [h.mlen];omega),h.mlen];simp
 · exact Gs.put h.size hd _ Dw (fun b hb=>heap_alloc_old w _ b (h.mlt hb))
end
end Go.HH
