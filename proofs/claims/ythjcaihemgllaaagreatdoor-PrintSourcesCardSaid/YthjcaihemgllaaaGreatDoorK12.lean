/-
  What the law needs, packed: Step4.
-/
import Derived.Test.YthjcaihemgllaaaGreatDoorK11
open List renaming getElem?_append_right->Aau,getElem?_append_left->Aav,prefix_append->Aaw,getElem?_eq_none->Aax,mem_of_getElem?->Aay,mem_append->Ab0
open Go.Result renaming andThen_ok->Aaz
open Go.World renaming cell?_of_block->Ab1
open Go.Sem renaming run_pure->Ab2,run_bind->Ab3
open Nat renaming eq_zero_or_pos->Ab4
namespace Go.HH
open Go Go.RowKit
section
variable {C:Cfg} {D:List Deferred} {B:Nat} {T:Nat->Prop} {S:AJ} {M:List Nat} {n:Nat} {st:St} {a:Act} {w:World}
theorem F0 {M M':List Nat} (h:M <+: M') (id b:Nat) (hb:M[id]?=some b):M'[id]?=some b:=by
 obtain ⟨t,rfl⟩:=h
 have hl:id < M.length:=by
  rcases Nat.lt_or_ge id M.length with h | h
  · exact h
  · rw [Aax h] at hb;cases hb
 rw [Aav hl];exact hb
theorem Lq {bx:List PBox} {x:PBox} {id:Nat} (h:id < bx.length):A0 (bx++[x]) id=A0 bx id:=by
 simp [A0,Aav h]
theorem Sim.newBox (h:Sim C D B T S M n st a w) (obj:Obj) (bx:PBox) (O4:BoxAt S (M++[w.heap.size]) (w.alloc obj) bx w.heap.size)
 (G0:∀ t cs,bx=.cells t cs->∀ p ∈ cs,∀ e xs,p≠.osl e xs):Sim C D B T S (M++[w.heap.size]) n ⟨st.env,st.bx++[bx]⟩ a (w.alloc obj):=by
 have hold:∀ k,k < w.heap.size->(w.alloc obj).heap[k]?=w.heap[k]?:=fun k hk=>heap_alloc_old w obj k hk;have Du:∀ (id b:Nat),M[id]?=some b->(M++[w.heap.size])[id]?=some b:=fun id b hb=>F0 (Aaw _ _) id b hb;have hM:∀ b,b ∈ M->(w.alloc obj).heap[b]?=w.heap[b]?:=fun b hb=>hold b (h.mlt hb)
 have loc:∀ l e xs v,LocAt ⟨st.env,st.bx++[bx]⟩ (M++[w.heap.size]) a (w.alloc obj) l (.osl e xs) v->LocAt st M a w l (.osl e xs) v:=by
  intro l e xs v hl;cases l with
  | tmp t=>exact hl
  | box id off=>
   obtain ⟨cs,b,h1,h2,h3,h4⟩:=hl;by_cases hid:id < st.bx.length
   · rw [Lq hid] at h1
     have uT:id < M.length:=by rw [h.mlen];exact hid
     rw [Aav uT] at h3;refine ⟨cs,b,h1,h2,h3,?_⟩;rw [Ab1 (a:=⟨b,off,none⟩) (hM b (Aay h3))] at h4;exact h4
   · exfalso
     unfold A0 at h1;split at h1
     · rename_i cs' hg
       injection h1 with h1
       subst h1;rw [Aau (by omega)] at hg
       have:id - st.bx.length=0:=by
        rcases Ab4 (id - st.bx.length) with hh | hh
        · exact hh
        · rw [Aax (by simp;omega)] at hg;cases hg
       rw [this] at hg;simp at hg;exact G0 _ _ hg (.osl e xs) (Aay h2) e xs rfl
     · cases h1
 refine ⟨fun b o v hv=>?_,h.glob,h.gw.keep (fun b hb _=>hold b (Nat.lt_of_lt_of_le hb h.hB)),h.size,h.dfr,fun t=>(h.env t).mono (AJ.le.refl _) Du,by simp [h.mlen],fun id x hx=>?_,?_,fun b hb o=>?_,fun b hb=>?_,by simp;have:=h.hB;omega,fun l e xs v hl=>?_,fun l l' e e' xs xs' v v' g hl D3=>?_⟩
 · rw [Ab1 (a:=⟨b,o,none⟩) (hold b (Is (h.holds b o v hv)))]
   exact h.holds b o v hv
 · by_cases hid:id < st.bx.length
   · rw [Aav hid] at hx
     obtain ⟨b,h1,h2⟩:=h.boxes id x hx;refine ⟨b,Du id b h1,?_⟩;have h3:=h2.kept (AJ.le.refl _) (hM b (Aay h1));cases h3 with
     | cells e cs b c hh l h1 hr=>exact .cells e cs b c hh l h1 (fun i x y=>(hr i x y).mono (AJ.le.refl _) Du)
     | iter s pos b hh=>exact .iter s pos b hh
   · rw [Aau (by omega)] at hx
     have h0:id - st.bx.length=0:=by
      rcases Ab4 (id - st.bx.length) with hh | hh
      · exact hh
      · rw [Aax (by simp;omega)] at hx;cases hx
     rw [h0] at hx;simp at hx;subst hx;refine ⟨w.heap.size,?_,O4⟩;rw [Aau (by rw [h.mlen];omega),h.mlen,h0];rfl
 · rw [List.nodup_append]
   exact ⟨h.nodup,by simp,fun x hx y hy=>by simp at hy;subst hy;have:=h.mlt hx;omega⟩
 · rcases Ab0.1 hb with hb | hb
   · exact h.mS b hb o
   · simp at hb;subst hb;exact Pb h.holds _ (Nat.le_refl _) o
 · rcases Ab0.1 hb with hb | hb
   · exact h.mT b hb
   · simp at hb;subst hb;exact .inl h.hB
 · obtain ⟨h1,h2⟩:=h.own l e xs v (loc l e xs v hl)
   refine ⟨?_,h2⟩;obtain ⟨i,vals,hi,GU,hx,hg⟩:=h1.kept (S':=S) (w':=w.alloc obj) (fun g hg=>⟨hold g (h1.lt hg),fun _=>rfl⟩)
   exact ⟨i,vals,hi,GU,hx,fun g e=>⟨fun hm=>by
    rcases Ab0.1 hm with hm | hm
    · exact (hg g e).1 hm
    · simp at hm;have:=h1.lt e;omega,(hg g e).2⟩⟩
 · exact h.apart l l' e e' xs xs' v v' g (loc _ _ _ _ hl) (loc _ _ _ _ D3)
theorem Pc (h:Sim C D B T S M n st a w) (obj:Obj):Grows B T S w S (w.alloc obj):=
 ⟨rfl,rfl,rfl,by simp,fun k hk _=>heap_alloc_old w obj k (by have:=h.hB;omega),AJ.le.refl _,fun _ _ _ _=>rfl⟩
theorem V1 {cs:List PV} {c:Array Value} (h:FG S M cs c):FG S M (cs.map PV.ro) c:=
 ⟨by simpa using h.1,h.2.1,fun i h1 h2=>by simpa using (h.2.2 i (by simpa using h1) h2).ro⟩
theorem LK (h:Sim C D B T S M n st a w) {o:Oper} (hd:∀ k,o.dst=some k->k < n) {al:List (Nat×Loc)} (FF:GK M a w al) {cs:List PV} {c:Array Value} {e:TypeId} (hc:FG S M cs c)
 (G0:∀ p ∈ cs,∀ e xs,p≠.osl e xs)
 (hv:(execOp a.eval o).run C.P w=.ok (.value (.pointer (some ⟨w.heap.size,0,none⟩))) (w.alloc (.cells c e))) :
 Fg C D B T S M n a w o (.next ((St.mk st.env (st.bx++[.cells e cs])).put o.dst (.bp st.bx.length 0)) (Aj al o.dst)):=by
 intro K Q hK;have Du:∀ (id b:Nat),M[id]?=some b->(M++[w.heap.size])[id]?=some b:=fun id b hb=>F0 (Aaw _ _) id b hb;have hs:=h.newBox (.cells c e) (.cells e cs) (.cells e cs _ c (heap_alloc_new w _) hc.1 hc.2.1 (fun i x y=>(hc.2.2 i x y).mono (AJ.le.refl _) Du)) (fun t' cs' he=>by injection he with _ he;subst he;exact G0);refine Cg hv (hK S (M++[w.heap.size]) _ _ (hs.put o.dst hd (.bp _ _ w.heap.size ?_) (fun e xs=>by simp)) (Pc h _) (Aaw _ _) ?_)
 · rw [Aau (by rw [h.mlen];omega),h.mlen];simp
 · exact FF.put h.size hd _ Du (fun b hb=>heap_alloc_old w _ b (h.mlt hb))
theorem L7 {p:PV} (h:(p.cells.map PV.ro).all PV.one=true):p.val=true:=by
 cases p <;> simp_all [PV.cells,PV.ro,PV.one,PV.val]
theorem NY (cs:List PV):∀ p ∈ cs.map PV.ro,∀ e xs,p≠.osl e xs:=by
 intro p hp e xs;obtain ⟨q,_,rfl⟩:=List.mem_map.1 hp;exact L6 q e xs
theorem iV (h:Sim C D B T S M n st a w) {o:Oper} (hd:∀ k,o.dst=some k->k < n) {al:List (Nat×Loc)} (FF:GK M a w al) {t:TypeId} {x:Operand} (ho:o.op=.box t x)
 (h1:(((opd C st.env x).cells.map PV.ro).all PV.one)=true) :
 Fg C D B T S M n a w o (.next ((St.mk st.env (st.bx++[.cells t ((opd C st.env x).cells.map PV.ro)])).put o.dst (.bp st.bx.length 0)) (Aj al o.dst)):=by
 have hx:=h.opd x;refine LK h hd FF (c:=(a.eval x).cells) (e:=t) (V1 (hx.cells (L7 h1))) (NY _) ?_;rw [execOp,ho];simp only [Instr.box,newVar,newRow,Ab3,run_newObj,Ab2,Aaz];rfl
theorem ax (h:Sim C D B T S M n st a w) {o:Oper} (hd:∀ k,o.dst=some k->k < n) {al:List (Nat×Loc)} (FF:GK M a w al) {t:TypeId} (ho:o.op=.alloc t) {z:PV} (hz:tZero C t=some z)
 (h1:((z.cells.map PV.ro).all PV.one)=true) :
 Fg C D B T S M n a w o (.next ((St.mk st.env (st.bx++[.cells t (z.cells.map PV.ro)])).put o.dst (.bp st.bx.length 0)) (Aj al o.dst)):=by
 obtain ⟨i,v,hi,nv,rfl⟩:=G9 hz;refine LK h hd FF (c:=v.cells) (e:=t) (V1 ((Rep.cval (S:=S) (M:=M) v).cells (L7 h1))) (NY _) ?_;rw [execOp,ho];simp only [Instr.alloc,zeroValue,typeInfo,hi,nv,newVar,newRow,Ab3,run_program,run_newObj,Ab2,Aaz];rfl
theorem ay (h:Sim C D B T S M n st a w) {o:Oper} (hd:∀ k,o.dst=some k->k < n) {al:List (Nat×Loc)} (FF:GK M a w al) {t:TypeId} {x:Operand} (ho:o.op=.range t x)
 {s:List UInt8} (ht:C.P.underlying t=some .string) (hs:opd C st.env x=.str s) :
 Fg C D B T S M n a w o (.next ((St.mk st.env (st.bx++[.iter s 0])).put o.dst (.bp st.bx.length 0)) (Aj al o.dst)):=by
 intro K Q hK;have hx:=h.opd x;rw [hs] at hx
 have hv:(execOp a.eval o).run C.P w=.ok (.value (.pointer (some ⟨w.heap.size,0,none⟩))) (w.alloc (.stringIter ⟨s.toArray⟩ 0)):=by
  rw [execOp,ho];simp only [hx.str_inv,Instr.range,Ab3,AH ht,run_newObj,Ab2,Aaz];rfl
 have Du:∀ (id b:Nat),M[id]?=some b->(M++[w.heap.size])[id]?=some b:=fun id b hb=>F0 (Aaw _ _) id b hb;have hs:=h.newBox (.stringIter ⟨s.toArray⟩ 0) (.iter s 0) (.iter s 0 _ (heap_alloc_new w _)) (fun t' cs' he=>by cases he);refine Cg hv (hK S (M++[w.heap.size]) _ _ (hs.put o.dst hd (.bp _ _ w.heap.size ?_) (fun e xs=>by simp)) (Pc h _) (Aaw _ _) ?_)
 · rw [Aau (by rw [h.mlen];omega),h.mlen];simp
 · exact FF.put h.size hd _ Du (fun b hb=>heap_alloc_old w _ b (h.mlt hb))
end
end Go.HH
