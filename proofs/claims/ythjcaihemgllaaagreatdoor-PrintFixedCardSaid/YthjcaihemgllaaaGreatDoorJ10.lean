/-
  What the law needs, packed: Step2.
-/
import Derived.Test.YthjcaihemgllaaaGreatDoorJ9
open Go.Value renaming ownBlock->Aa0
open Array renaming getElem?_eq_some_iff->Aa1
open List renaming getElem?_eq_getElem->Aa2,mem_of_getElem?->Aa4,getD_cons_succ->Aa5
open Go.World renaming cell?_of_block->Aa3
open Go.Act renaming eval->Aa6
namespace Go.HH
open Go Go.RowKit
theorem Fh (t:Nat):getT [] t=und:=by simp [getT]
theorem Dc (e:List PV):∀ (d t:Nat) (v:PV),getT (setT e d v) t=if t=d then v else getT e t:=by
 induction e with
 | nil=>
  intro d
  induction d with
  | zero=>intro t v;cases t <;> simp [setT,getT]
  | succ d ih=>
   intro t v;cases t with
   | zero=>simp [setT,getT]
   | succ t=>
    have:=ih t v;simp only [setT,getT,Aa5] at this |-;rw [this];simp
 | cons x r ih=>
  intro d t v;cases d with
  | zero=>cases t <;> simp [setT,getT]
  | succ d=>
   cases t with
   | zero=>simp [setT,getT]
   | succ t=>
    have:=ih d t v;simp only [setT,getT,Aa5] at this |-;rw [this];simp
theorem Ij (a:Array Value) (d t:Nat) (v:Value) (h:d < a.size):(a.setIfInBounds d v).getD t undef=if t=d then v else a.getD t undef:=by
 simp only [Array.getD_eq_getD_getElem?,Array.getElem?_setIfInBounds];by_cases ht:t=d
 · subst ht;simp [h]
 · rw [if_neg ht,if_neg (Ne.symm ht)]
section
variable {C:Cfg} {D:List Deferred} {B:Nat} {T:Nat->Prop} {S:AI} {M:List Nat} {n:Nat} {st:St} {a:Act} {w:World}
theorem G4 (a:Act) (d:Nat) (v:Value):(a.put (some d) v).tmps=a.tmps.setIfInBounds d v:=rfl
theorem nk (a:Act) (d:Option Nat) (v:Value):(a.put d v).defers=a.defers:=by cases d <;> rfl
theorem iv (a:Act) (d:Option Nat) (v:Value):(a.put d v).tmps.size=a.tmps.size:=by cases d <;> simp [Act.put]
theorem Sim.putG (h:Sim C D B T S M n st a w) (d:Option Tmp) (hd:∀ k,d=some k->k < n) {p:PV} {v:Value} (hr:Rep S M p v)
 (ho:∀ e xs,p=.osl e xs->OwnAt C.P S M w e xs v/\(∀ g,v.ownBlock=some g->B<=g\/T g) /\
  ∀ l e' xs' u g,(∀ k,d=some k->l≠.tmp k)->LocAt st M a w l (.osl e' xs') u->u.ownBlock=some g->v.ownBlock≠some g):Sim C D B T S M n (st.put d p) (a.put d v) w:=by
 cases d with
 | none=>exact h
 | some d=>
  have vd:=hd d rfl;have hg:=fun t=>Dc st.env d t p;have hv:=fun t=>Ij a.tmps d t v (by rw [h.size];exact vd)
  have loc:∀ l e xs u,LocAt (st.put (some d) p) M (a.put (some d) v) w l (.osl e xs) u->(l=.tmp d/\p=.osl e xs/\v=u)\/(l≠.tmp d/\LocAt st M a w l (.osl e xs) u):=by
   intro l e xs u hl;cases l with
   | tmp t=>
    obtain ⟨h1,h2⟩:=hl;simp only [St.put] at h1;rw [hg] at h1;rw [G4,hv] at h2;by_cases ht:t=d
    · rw [if_pos ht] at h1 h2;exact .inl ⟨by rw [ht],h1,h2⟩
    · rw [if_neg ht] at h1 h2;exact .inr ⟨by simpa using ht,h1,h2⟩
   | box id off=>exact .inr ⟨by simp,hl⟩
  refine ⟨h.holds,h.glob,h.gw,by rw [iv];exact h.size,by rw [nk];exact h.dfr,fun t=>?_,h.mlen,h.boxes,h.nodup,h.mS,h.mT,h.hB,fun l e xs u hl=>?_,fun l l' e e' xs xs' u u' g hl D4 hu hF=>?_⟩
  · simp only [St.put]
    rw [hg,G4,hv];split
    · exact hr
    · exact h.env t
  · rcases loc l e xs u hl with ⟨_,rfl,rfl⟩ | ⟨_,hl⟩
    · exact ⟨(ho e xs rfl).1,(ho e xs rfl).2.1⟩
    · exact h.own l e xs u hl
  · rcases loc l e xs u hl with ⟨rfl,rfl,rfl⟩ | ⟨Dz,bQ⟩
    · rcases loc l' e' xs' u' D4 with ⟨rfl,_,rfl⟩ | ⟨mi,HP⟩
      · rfl
      · exact absurd hu ((ho e xs rfl).2.2 l' e' xs' u' g (fun k hk=>by injection hk with hk;subst hk;exact mi) HP hF)
    · rcases loc l' e' xs' u' D4 with ⟨rfl,rfl,rfl⟩ | ⟨mi,HP⟩
      · exact absurd hF ((ho e' xs' rfl).2.2 l e xs u g (fun k hk=>by injection hk with hk;subst hk;exact Dz) bQ hu)
      · exact h.apart l l' e e' xs xs' u u' g bQ HP hu hF
theorem Sim.put (h:Sim C D B T S M n st a w) (d:Option Tmp) (hd:∀ k,d=some k->k < n) {p:PV} {v:Value} (hr:Rep S M p v) (ho:∀ e xs,p≠.osl e xs) :
 Sim C D B T S M n (st.put d p) (a.put d v) w:=
 h.putG d hd hr fun e xs he=>absurd he (ho e xs)
theorem Rep.und (S:AI) (M:List Nat):Rep S M und undef:=.tup [] #[] rfl fun i h=>by simp at h
theorem Sim.roT (h:Sim C D B T S M n st a w) (i:Nat) {e:TypeId} {xs:List PV} (he:getT st.env i=.osl e xs) :
 Sim C D B T S M n { st with env:=setT st.env i (.sl xs) } a w:=by
 have hg:=fun t=>Dc st.env i t (.sl xs)
 have loc:∀ l e xs' u,LocAt { st with env:=setT st.env i (.sl xs) } M a w l (.osl e xs') u->LocAt st M a w l (.osl e xs') u:=by
  intro l e xs' u hl;cases l with
  | tmp t=>
   obtain ⟨h1,h2⟩:=hl;rw [hg] at h1;by_cases ht:t=i
   · rw [if_pos ht] at h1;cases h1
   · rw [if_neg ht] at h1;exact ⟨h1,h2⟩
  | box id off=>exact hl
 refine ⟨h.holds,h.glob,h.gw,h.size,h.dfr,fun t=>?_,h.mlen,h.boxes,h.nodup,h.mS,h.mT,h.hB,fun l e xs u hl=>h.own l e xs u (loc _ _ _ _ hl),fun l l' e e' xs xs' u u' g hl D4=>h.apart l l' e e' xs xs' u u' g (loc _ _ _ _ hl) (loc _ _ _ _ D4)⟩;rw [hg];split
 · rename_i ht
   subst ht;have:=h.env t;rw [he] at this;cases this with | osl e xs v h=>exact h
 · exact h.env t
theorem UM (h:Sim C D B T S M n st a w) (x:Operand) (t:TypeId) {v:PV} {st1:St} (ht:D9 C st x t=(v,st1)) :
 Sim C D B T S M n st1 a w/\st1.bx=st.bx/\Rep S M v (a.eval x) /\
 (∀ e xs,v=.osl e xs->OwnAt C.P S M w e xs (a.eval x)/\(∀ g,(a.eval x).ownBlock=some g->B<=g\/T g)/\∀ l e' xs' u g,LocAt st1 M a w l (.osl e' xs') u->u.ownBlock=some g->(a.eval x).ownBlock≠some g):=by
 unfold D9 at ht;split at ht
 · rename_i i
   split at ht
   · rename_i e xs he
     injection ht with h1 h2
     subst h1;subst h2;have Gr:LocAt st M a w (.tmp i) (.osl e xs) (a.eval (.tmp i)):=⟨he,rfl⟩;refine ⟨h.roT i he,rfl,?_,fun e' xs' heq=>?_⟩
     · have:=h.env i;rw [he] at this;exact this
     · injection heq with e1 e2
       subst e1;subst e2;obtain ⟨h1,h2⟩:=h.own _ _ _ _ Gr;refine ⟨h1,h2,fun l e' xs' u g hl hu hv=>?_⟩
       have Dz:l≠.tmp i:=by
        rintro rfl
        obtain ⟨h3,_⟩:=hl;rw [Dc,if_pos rfl] at h3;cases h3
       have D4:LocAt st M a w l (.osl e' xs') u:=by
        cases l with
        | tmp t=>
         obtain ⟨h3,h4⟩:=hl;rw [Dc] at h3;have:t≠i:=by simpa using Dz
         rw [if_neg this] at h3;exact ⟨h3,h4⟩
        | box id off=>exact hl
       exact Dz (h.apart l (.tmp i) _ _ _ _ _ _ g D4 Gr hu hv)
   · rename_i v' GU
     injection ht with h1 h2
     subst h1;subst h2;refine ⟨h,rfl,h.env i,fun e xs he=>absurd he (GU e xs)⟩
 · split at ht
   · rename_i e hu
     split at ht
     · rename_i NH
       obtain ⟨i,hi⟩:=Option.isSome_iff_exists.1 NH;injection ht with h1 h2
       subst h1;subst h2;refine ⟨h,rfl,.osl e [] _ (.slE none 0),fun e' xs' heq=>?_⟩;injection heq with e1 e2
       subst e1;subst e2;refine ⟨⟨i,[],hi,World.ownsRow_nil w 0 e i.size,by simp,fun g hg=>by simp [Aa6,Aa0] at hg⟩,fun g hg=>by simp [Aa6,Aa0] at hg,fun l e' xs' u g hl hu hv=>by simp [Aa6,Aa0] at hv⟩
     · injection ht with h1 h2
       subst h1;subst h2;exact ⟨h,rfl,.nils,fun e xs he=>by cases he⟩
   · injection ht with h1 h2
     subst h1;subst h2;exact ⟨h,rfl,.nils,fun e xs he=>by cases he⟩
 · injection ht with h1 h2
   subst h1;subst h2;exact ⟨h,rfl,h.opd x,fun e xs he=>absurd he (ET _ _ _ _)⟩
structure Kept (S:AI) (w:World) (S':AI) (w':World):Prop where
 os:w'.os=w.os
 tape:w'.tape=w.tape
 output:w'.output=w.output
 size:w.heap.size<=w'.heap.size
 block:∀ k,k < w.heap.size->w'.heap[k]?=w.heap[k]?
 store:S.le S'
 same:∀ k,k < w.heap.size->∀ o,S' k o=S k o
 holds:∀ b o v,S' b o=some v->w'.cell? ⟨b,o,none⟩=some v
theorem Kept.grows {S':AI} {w':World} (h:Kept S w S' w') (hB:B<=w.heap.size):Grows B T S w S' w':=
 ⟨h.os,h.tape,h.output,h.size,fun k hk _=>h.block k (by omega),h.store,fun k hk _=>h.same k (by omega)⟩
theorem Ik {b o:Nat} {v:Value} (h:w.cell? ⟨b,o,none⟩=some v):b < w.heap.size:=block_lt_of_cell (a:=⟨b,o,none⟩) h
theorem Sim.mlt (h:Sim C D B T S M n st a w) {b:Nat} (hb:b ∈ M):b < w.heap.size:=by
 obtain ⟨id,hid,dY⟩:=List.getElem_of_mem hb;have hl:id < st.bx.length:=by rw [<- h.mlen];exact hid
 obtain ⟨bx,J8⟩:∃ bx,st.bx[id]?=some bx:=⟨_,Aa2 hl⟩;obtain ⟨b',h1,h2⟩:=h.boxes id bx J8;rw [Aa2 hid,dY] at h1;injection h1 with h1
 subst h1;cases h2 with
 | cells e cs b c hh l h1 hr=>exact (Aa1.1 hh).1
 | iter s pos b hh=>exact (Aa1.1 hh).1
theorem BoxAt.kept {S':AI} {w':World} {bx:PBox} {b:Nat} (h:BoxAt S M w bx b) (hS:S.le S') (hb:w'.heap[b]?=w.heap[b]?):BoxAt S' M w' bx b:=by
 cases h with
 | cells e cs b c hh l h1 hr=>exact .cells e cs b c (by rw [hb];exact hh) l h1 (fun i a b=>(hr i a b).mono hS (fun _ _ x=>x))
 | iter s pos b hh=>exact .iter s pos b (by rw [hb];exact hh)
theorem OwnAt.kept {P:Program} {S':AI} {w':World} {e:TypeId} {xs:List PV} {v:Value} (h:OwnAt P S M w e xs v) (hk:∀ g,v.ownBlock=some g->w'.heap[g]?=w.heap[g]?/\∀ o,S' g o=S g o):OwnAt P S' M w' e xs v:=by
 obtain ⟨i,vals,hi,GN,hx,hg⟩:=h;refine ⟨i,vals,hi,⟨GN.1,?_⟩,hx,fun g e=>⟨(hg g e).1,fun j hj=>by rw [(hk g e).2];exact (hg g e).2 j hj⟩⟩;rcases GN.2 with h | ⟨g,cap,cur,rfl,h1,h2,h3⟩
 · exact .inl h
 · exact .inr ⟨g,cap,cur,rfl,h1,by rw [(hk g rfl).1];exact h2,h3⟩
theorem OwnAt.lt {P:Program} {e:TypeId} {xs:List PV} {v:Value} (h:OwnAt P S M w e xs v) {g:Nat} (hg:v.ownBlock=some g):g < w.heap.size:=by
 obtain ⟨i,vals,hi,GN,_⟩:=h;exact (GN.lt g hg).2
theorem LocAt.back {w':World} (hk:∀ k,k ∈ M->w'.heap[k]?=w.heap[k]?) {l:Loc} {p:PV} {v:Value} (hl:LocAt st M a w' l p v):LocAt st M a w l p v:=by
 cases l with
 | tmp t=>exact hl
 | box id off=>
  obtain ⟨cs,b,h1,h2,h3,h4⟩:=hl;refine ⟨cs,b,h1,h2,h3,?_⟩;rw [<- h4];exact (Aa3 (a:=⟨b,off,none⟩) (hk b (Aa4 h3))).symm
theorem Sim.kept (h:Sim C D B T S M n st a w) {S':AI} {w':World} (k:Kept S w S' w'):Sim C D B T S' M n st a w':=by
 have hM:∀ b,b ∈ M->w'.heap[b]?=w.heap[b]?:=fun b hb=>k.block b (h.mlt hb);refine ⟨k.holds,fun g cs hg=>(h.glob g cs hg).mono k.store (fun _ _ x=>x),h.gw.keep (fun b hb _=>k.block b (Nat.lt_of_lt_of_le hb h.hB)),h.size,h.dfr,fun t=>(h.env t).mono k.store (fun _ _ x=>x),h.mlen,fun id bx hb=>?_,h.nodup,fun b hb o=>?_,h.mT,Nat.le_trans h.hB k.size,fun l e xs v hl=>?_,fun l l' e e' xs xs' v v' g hl D4=>?_⟩
 · obtain ⟨b,h1,h2⟩:=h.boxes id bx hb
   exact ⟨b,h1,h2.kept k.store (hM b (Aa4 h1))⟩
 · rw [k.same b (h.mlt hb)];exact h.mS b hb o
 · obtain ⟨h1,h2⟩:=h.own l e xs v (LocAt.back hM hl)
   exact ⟨h1.kept fun g hg=>⟨k.block g (h1.lt hg),k.same g (h1.lt hg)⟩,h2⟩
 · exact h.apart l l' e e' xs xs' v v' g (LocAt.back hM hl) (LocAt.back hM D4)
def AI.add (S:AI) (b:Nat) (cs:List Value):AI:=fun b' o=>if b'=b then cs[o]? else S b' o
theorem O2 (hS:∀ b o v,S b o=some v->w.cell? ⟨b,o,none⟩=some v) (b:Nat) (hb:w.heap.size<=b) (o:Nat):S b o=none:=by
 cases h:S b o with
 | none=>rfl
 | some v=>have:=Ik (hS b o v h);omega
theorem Kept.alloc (h:Sim C D B T S M n st a w) (cs:Array Value) (e:TypeId) (k:Nat) (w0:World) (h0:w0.heap=w.heap) (h1:w0.os=w.os) (h2:w0.tape=w.tape) (h3:w0.output=w.output) :
 Kept S w (S.add w.heap.size (cs.toList.take k)) (w0.alloc (.cells cs e)):=by
 have Ql:(w0.alloc (.cells cs e)).heap[w.heap.size]?=some (.cells cs e (0,0)):=by rw [<- h0];exact heap_alloc_new w0 _
 have hold:∀ i,i < w.heap.size->(w0.alloc (.cells cs e)).heap[i]?=w.heap[i]?:=fun i hi=>by rw [heap_alloc_old w0 _ i (by rw [h0];exact hi),h0]
 refine ⟨h1,h2,h3,by rw [<- h0];simp,hold,fun b o v hv=>?_,fun b hb o=>?_,fun b o v hv=>?_⟩
 · have hb:=Ik (h.holds b o v hv)
   unfold AI.add;rw [if_neg (by omega)];exact hv
 · unfold AI.add
   rw [if_neg (by omega)]
 · unfold AI.add at hv
   split at hv
   · rename_i hb
     subst hb;rw [cell_of_heap Ql];rw [List.getElem?_take] at hv;split at hv
     · simpa using hv
     · cases hv
   · have hb:=Ik (h.holds b o v hv)
     rw [Aa3 (a:=⟨b,o,none⟩) (hold b hb)];exact h.holds b o v hv
end
end Go.HH
