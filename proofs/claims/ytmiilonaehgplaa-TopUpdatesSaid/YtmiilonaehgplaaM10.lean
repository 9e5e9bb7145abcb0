/-
  What the law needs, packed: Step2.
-/
import Derived.Test.YtmiilonaehgplaaM9
namespace Go.HH
open Go Go.RowKit
theorem getT_nil (t:Nat):getT [] t=und:=by simp [getT]
theorem getT_setT (e:List PV):∀ (d t:Nat) (v:PV),getT (setT e d v) t=if t=d then v else getT e t:=by
 induction e with
 | nil=>
  intro d
  induction d with
  | zero=>intro t v;cases t <;> simp [setT,getT]
  | succ d ih=>
   intro t v
   cases t with
   | zero=>simp [setT,getT]
   | succ t=>
    have:=ih t v
    simp only [setT,getT,List.getD_cons_succ] at this ⊢
    rw [this]
    simp
 | cons x r ih=>
  intro d t v
  cases d with
  | zero=>cases t <;> simp [setT,getT]
  | succ d=>
   cases t with
   | zero=>simp [setT,getT]
   | succ t=>
    have:=ih d t v
    simp only [setT,getT,List.getD_cons_succ] at this ⊢
    rw [this]
    simp
theorem getD_set (a:Array Value) (d t:Nat) (v:Value) (h:d < a.size):(a.setIfInBounds d v).getD t undef=if t=d then v else a.getD t undef:=by
 simp only [Array.getD_eq_getD_getElem?,Array.getElem?_setIfInBounds]
 by_cases ht:t=d
 · subst ht;simp [h]
 · rw [if_neg ht,if_neg (Ne.symm ht)]
section
variable {C:Cfg} {D:List Deferred} {B:Nat} {T:Nat->Prop} {S:Store} {M:List Nat} {n:Nat} {st:St} {a:Act} {w:World}
theorem put_tmps (a:Act) (d:Nat) (v:Value):(a.put (some d) v).tmps=a.tmps.setIfInBounds d v:=rfl
theorem put_dfr (a:Act) (d:Option Nat) (v:Value):(a.put d v).defers=a.defers:=by cases d <;> rfl
theorem put_size (a:Act) (d:Option Nat) (v:Value):(a.put d v).tmps.size=a.tmps.size:=by cases d <;> simp [Act.put]
theorem Sim.putG (h:Sim C D B T S M n st a w) (d:Option Tmp) (hd:∀ k,d=some k->k < n) {p:PV} {v:Value} (hr:Rep S M p v)
 (ho:∀ e xs,p=.osl e xs->OwnAt C.P S M w e xs v∧(∀ g,v.ownBlock=some g->B<=g∨T g) ∧
  ∀ l e' xs' u g,(∀ k,d=some k->l≠.tmp k)->LocAt st M a w l (.osl e' xs') u->u.ownBlock=some g->v.ownBlock≠some g):Sim C D B T S M n (st.put d p) (a.put d v) w:=by
 cases d with
 | none=>exact h
 | some d=>
  have hdn:=hd d rfl
  have hg:=fun t=>getT_setT st.env d t p
  have hv:=fun t=>getD_set a.tmps d t v (by rw [h.size];exact hdn)
  have loc:∀ l e xs u,LocAt (st.put (some d) p) M (a.put (some d) v) w l (.osl e xs) u->(l=.tmp d∧p=.osl e xs∧v=u)∨(l≠.tmp d∧LocAt st M a w l (.osl e xs) u):=by
   intro l e xs u hl
   cases l with
   | tmp t=>
    obtain ⟨h1,h2⟩:=hl
    simp only [St.put] at h1
    rw [hg] at h1
    rw [put_tmps,hv] at h2
    by_cases ht:t=d
    · rw [if_pos ht] at h1 h2;exact .inl ⟨by rw [ht],h1,h2⟩
    · rw [if_neg ht] at h1 h2;exact .inr ⟨by simpa using ht,h1,h2⟩
   | box id off=>exact .inr ⟨by simp,hl⟩
  refine ⟨h.holds,h.glob,h.gw,by rw [put_size];exact h.size,by rw [put_dfr];exact h.dfr,fun t=>?_,h.mlen,h.boxes,h.nodup,h.mS,h.mT,h.hB,fun l e xs u hl=>?_,fun l l' e e' xs xs' u u' g hl hl' hu hu'=>?_⟩
  · simp only [St.put]
    rw [hg,put_tmps,hv]
    split
    · exact hr
    · exact h.env t
  · rcases loc l e xs u hl with ⟨_,rfl,rfl⟩ | ⟨_,hl⟩
    · exact ⟨(ho e xs rfl).1,(ho e xs rfl).2.1⟩
    · exact h.own l e xs u hl
  · rcases loc l e xs u hl with ⟨rfl,rfl,rfl⟩ | ⟨hne,hl1⟩
    · rcases loc l' e' xs' u' hl' with ⟨rfl,_,rfl⟩ | ⟨hne',hl2⟩
      · rfl
      · exact absurd hu ((ho e xs rfl).2.2 l' e' xs' u' g (fun k hk=>by injection hk with hk;subst hk;exact hne') hl2 hu')
    · rcases loc l' e' xs' u' hl' with ⟨rfl,rfl,rfl⟩ | ⟨hne',hl2⟩
      · exact absurd hu' ((ho e' xs' rfl).2.2 l e xs u g (fun k hk=>by injection hk with hk;subst hk;exact hne) hl1 hu)
      · exact h.apart l l' e e' xs xs' u u' g hl1 hl2 hu hu'
theorem Sim.put (h:Sim C D B T S M n st a w) (d:Option Tmp) (hd:∀ k,d=some k->k < n) {p:PV} {v:Value} (hr:Rep S M p v) (ho:∀ e xs,p≠.osl e xs) :
 Sim C D B T S M n (st.put d p) (a.put d v) w:=
 h.putG d hd hr fun e xs he=>absurd he (ho e xs)
theorem Rep.und (S:Store) (M:List Nat):Rep S M und undef:=.tup [] #[] rfl fun i h=>by simp at h
theorem Sim.roT (h:Sim C D B T S M n st a w) (i:Nat) {e:TypeId} {xs:List PV} (he:getT st.env i=.osl e xs) :
 Sim C D B T S M n { st with env:=setT st.env i (.sl xs) } a w:=by
 have hg:=fun t=>getT_setT st.env i t (.sl xs)
 have loc:∀ l e xs' u,LocAt { st with env:=setT st.env i (.sl xs) } M a w l (.osl e xs') u->LocAt st M a w l (.osl e xs') u:=by
  intro l e xs' u hl
  cases l with
  | tmp t=>
   obtain ⟨h1,h2⟩:=hl
   rw [hg] at h1
   by_cases ht:t=i
   · rw [if_pos ht] at h1;cases h1
   · rw [if_neg ht] at h1;exact ⟨h1,h2⟩
  | box id off=>exact hl
 refine ⟨h.holds,h.glob,h.gw,h.size,h.dfr,fun t=>?_,h.mlen,h.boxes,h.nodup,h.mS,h.mT,h.hB,fun l e xs u hl=>h.own l e xs u (loc _ _ _ _ hl),fun l l' e e' xs xs' u u' g hl hl'=>h.apart l l' e e' xs xs' u u' g (loc _ _ _ _ hl) (loc _ _ _ _ hl')⟩
 rw [hg]
 split
 · rename_i ht
   subst ht
   have:=h.env t
   rw [he] at this
   cases this with | osl e xs v h=>exact h
 · exact h.env t
theorem takeT_sim (h:Sim C D B T S M n st a w) (x:Operand) (t:TypeId) {v:PV} {st1:St} (ht:takeT C st x t=(v,st1)) :
 Sim C D B T S M n st1 a w∧st1.bx=st.bx∧Rep S M v (a.eval x) ∧
 (∀ e xs,v=.osl e xs->OwnAt C.P S M w e xs (a.eval x)∧(∀ g,(a.eval x).ownBlock=some g->B<=g∨T g)∧∀ l e' xs' u g,LocAt st1 M a w l (.osl e' xs') u->u.ownBlock=some g->(a.eval x).ownBlock≠some g):=by
 unfold takeT at ht
 split at ht
 · rename_i i
   split at ht
   · rename_i e xs he
     injection ht with h1 h2
     subst h1
     subst h2
     have hloc:LocAt st M a w (.tmp i) (.osl e xs) (a.eval (.tmp i)):=⟨he,rfl⟩
     refine ⟨h.roT i he,rfl,?_,fun e' xs' heq=>?_⟩
     · have:=h.env i;rw [he] at this;exact this
     · injection heq with e1 e2
       subst e1
       subst e2
       obtain ⟨h1,h2⟩:=h.own _ _ _ _ hloc
       refine ⟨h1,h2,fun l e' xs' u g hl hu hv=>?_⟩
       have hne:l≠.tmp i:=by
        rintro rfl
        obtain ⟨h3,_⟩:=hl
        rw [getT_setT,if_pos rfl] at h3
        cases h3
       have hl':LocAt st M a w l (.osl e' xs') u:=by
        cases l with
        | tmp t=>
         obtain ⟨h3,h4⟩:=hl
         rw [getT_setT] at h3
         have:t≠i:=by simpa using hne
         rw [if_neg this] at h3
         exact ⟨h3,h4⟩
        | box id off=>exact hl
       exact hne (h.apart l (.tmp i) _ _ _ _ _ _ g hl' hloc hu hv)
   · rename_i v' hno
     injection ht with h1 h2
     subst h1
     subst h2
     refine ⟨h,rfl,h.env i,fun e xs he=>absurd he (hno e xs)⟩
 · split at ht
   · rename_i e hu
     split at ht
     · rename_i hin
       obtain ⟨i,hi⟩:=Option.isSome_iff_exists.1 hin
       injection ht with h1 h2
       subst h1
       subst h2
       refine ⟨h,rfl,.osl e [] _ (.slE none 0),fun e' xs' heq=>?_⟩
       injection heq with e1 e2
       subst e1
       subst e2
       refine ⟨⟨i,[],hi,World.ownsRow_nil w 0 e i.size,by simp,fun g hg=>by simp [Act.eval,Value.ownBlock] at hg⟩,fun g hg=>by simp [Act.eval,Value.ownBlock] at hg,fun l e' xs' u g hl hu hv=>by simp [Act.eval,Value.ownBlock] at hv⟩
     · injection ht with h1 h2
       subst h1
       subst h2
       exact ⟨h,rfl,.nils,fun e xs he=>by cases he⟩
   · injection ht with h1 h2
     subst h1
     subst h2
     exact ⟨h,rfl,.nils,fun e xs he=>by cases he⟩
 · injection ht with h1 h2
   subst h1
   subst h2
   exact ⟨h,rfl,h.opd x,fun e xs he=>absurd he (opd_not_osl _ _ _ _)⟩
structure Kept (S:Store) (w:World) (S':Store) (w':World):Prop where
 os:w'.os=w.os
 tape:w'.tape=w.tape
 output:w'.output=w.output
 size:w.heap.size<=w'.heap.size
 block:∀ k,k < w.heap.size->w'.heap[k]?=w.heap[k]?
 store:S.le S'
 same:∀ k,k < w.heap.size->∀ o,S' k o=S k o
 holds:∀ b o v,S' b o=some v->w'.cell? ⟨b,o,none⟩=some v
theorem Kept.grows {S':Store} {w':World} (h:Kept S w S' w') (hB:B<=w.heap.size):Grows B T S w S' w':=
 ⟨h.os,h.tape,h.output,h.size,fun k hk _=>h.block k (by omega),h.store,fun k hk _=>h.same k (by omega)⟩
theorem block_lt {b o:Nat} {v:Value} (h:w.cell? ⟨b,o,none⟩=some v):b < w.heap.size:=block_lt_of_cell (a:=⟨b,o,none⟩) h
theorem Sim.mlt (h:Sim C D B T S M n st a w) {b:Nat} (hb:b ∈ M):b < w.heap.size:=by
 obtain ⟨id,hid,hb'⟩:=List.getElem_of_mem hb
 have hl:id < st.bx.length:=by rw [<- h.mlen];exact hid
 obtain ⟨bx,hbx⟩:∃ bx,st.bx[id]?=some bx:=⟨_,List.getElem?_eq_getElem hl⟩
 obtain ⟨b',h1,h2⟩:=h.boxes id bx hbx
 rw [List.getElem?_eq_getElem hid,hb'] at h1
 injection h1 with h1
 subst h1
 cases h2 with
 | cells e cs b c hh l h1 hr=>exact (Array.getElem?_eq_some_iff.1 hh).1
 | iter s pos b hh=>exact (Array.getElem?_eq_some_iff.1 hh).1
 | mp es b c k hh l hr=>exact (Array.getElem?_eq_some_iff.1 hh).1
theorem BoxAt.kept {S':Store} {w':World} {bx:PBox} {b:Nat} (h:BoxAt S M w bx b) (hS:S.le S') (hb:w'.heap[b]?=w.heap[b]?):BoxAt S' M w' bx b:=by
 cases h with
 | cells e cs b c hh l h1 hr=>exact .cells e cs b c (by rw [hb];exact hh) l h1 (fun i a b=>(hr i a b).mono hS (fun _ _ x=>x))
 | iter s pos b hh=>exact .iter s pos b (by rw [hb];exact hh)
 | mp es b c k hh l hr=>exact .mp es b c k (by rw [hb];exact hh) l (fun i a b=>⟨(hr i a b).1.mono hS (fun _ _ x=>x),(hr i a b).2.mono hS (fun _ _ x=>x)⟩)
theorem OwnAt.kept {P:Program} {S':Store} {w':World} {e:TypeId} {xs:List PV} {v:Value} (h:OwnAt P S M w e xs v) (hk:∀ g,v.ownBlock=some g->w'.heap[g]?=w.heap[g]?∧∀ o,S' g o=S g o):OwnAt P S' M w' e xs v:=by
 obtain ⟨i,vals,hi,hrow,hx,hg⟩:=h
 refine ⟨i,vals,hi,⟨hrow.1,?_⟩,hx,fun g e=>⟨(hg g e).1,fun j hj=>by rw [(hk g e).2];exact (hg g e).2 j hj⟩⟩
 rcases hrow.2 with h | ⟨g,cap,cur,rfl,h1,h2,h3⟩
 · exact .inl h
 · exact .inr ⟨g,cap,cur,rfl,h1,by rw [(hk g rfl).1];exact h2,h3⟩
theorem OwnAt.lt {P:Program} {e:TypeId} {xs:List PV} {v:Value} (h:OwnAt P S M w e xs v) {g:Nat} (hg:v.ownBlock=some g):g < w.heap.size:=by
 obtain ⟨i,vals,hi,hrow,_⟩:=h
 exact (hrow.lt g hg).2
theorem LocAt.back {w':World} (hk:∀ k,k ∈ M->w'.heap[k]?=w.heap[k]?) {l:Loc} {p:PV} {v:Value} (hl:LocAt st M a w' l p v):LocAt st M a w l p v:=by
 cases l with
 | tmp t=>exact hl
 | box id off=>
  obtain ⟨cs,b,h1,h2,h3,h4⟩:=hl
  refine ⟨cs,b,h1,h2,h3,?_⟩
  rw [<- h4]
  exact (World.cell?_of_block (a:=⟨b,off,none⟩) (hk b (List.mem_of_getElem? h3))).symm
theorem Sim.kept (h:Sim C D B T S M n st a w) {S':Store} {w':World} (k:Kept S w S' w'):Sim C D B T S' M n st a w':=by
 have hM:∀ b,b ∈ M->w'.heap[b]?=w.heap[b]?:=fun b hb=>k.block b (h.mlt hb)
 refine ⟨k.holds,fun g cs hg=>(h.glob g cs hg).mono k.store (fun _ _ x=>x),h.gw.keep (fun b hb _=>k.block b (Nat.lt_of_lt_of_le hb h.hB)),h.size,h.dfr,fun t=>(h.env t).mono k.store (fun _ _ x=>x),h.mlen,fun id bx hb=>?_,h.nodup,fun b hb o=>?_,h.mT,Nat.le_trans h.hB k.size,fun l e xs v hl=>?_,fun l l' e e' xs xs' v v' g hl hl'=>?_⟩
 · obtain ⟨b,h1,h2⟩:=h.boxes id bx hb
   exact ⟨b,h1,h2.kept k.store (hM b (List.mem_of_getElem? h1))⟩
 · rw [k.same b (h.mlt hb)];exact h.mS b hb o
 · obtain ⟨h1,h2⟩:=h.own l e xs v (LocAt.back hM hl)
   exact ⟨h1.kept fun g hg=>⟨k.block g (h1.lt hg),k.same g (h1.lt hg)⟩,h2⟩
 · exact h.apart l l' e e' xs xs' v v' g (LocAt.back hM hl) (LocAt.back hM hl')
def Store.add (S:Store) (b:Nat) (cs:List Value):Store:=fun b' o=>if b'=b then cs[o]? else S b' o
theorem store_fresh (hS:∀ b o v,S b o=some v->w.cell? ⟨b,o,none⟩=some v) (b:Nat) (hb:w.heap.size<=b) (o:Nat):S b o=none:=by
 cases h:S b o with
 | none=>rfl
 | some v=>have:=block_lt (hS b o v h);omega
theorem Kept.alloc (h:Sim C D B T S M n st a w) (cs:Array Value) (e:TypeId) (k:Nat) (w0:World) (h0:w0.heap=w.heap) (h1:w0.os=w.os) (h2:w0.tape=w.tape) (h3:w0.output=w.output) :
 Kept S w (S.add w.heap.size (cs.toList.take k)) (w0.alloc (.cells cs e)):=by
 have hnew:(w0.alloc (.cells cs e)).heap[w.heap.size]?=some (.cells cs e (0,0)):=by rw [<- h0];exact heap_alloc_new w0 _
 have hold:∀ i,i < w.heap.size->(w0.alloc (.cells cs e)).heap[i]?=w.heap[i]?:=fun i hi=>by rw [heap_alloc_old w0 _ i (by rw [h0];exact hi),h0]
 refine ⟨h1,h2,h3,by rw [<- h0];simp,hold,fun b o v hv=>?_,fun b hb o=>?_,fun b o v hv=>?_⟩
 · have hb:=block_lt (h.holds b o v hv)
   unfold Store.add
   rw [if_neg (by omega)]
   exact hv
 · unfold Store.add
   rw [if_neg (by omega)]
 · unfold Store.add at hv
   split at hv
   · rename_i hb
     subst hb
     rw [cell_of_heap hnew]
     rw [List.getElem?_take] at hv
     split at hv
     · simpa using hv
     · cases hv
   · have hb:=block_lt (h.holds b o v hv)
     rw [World.cell?_of_block (a:=⟨b,o,none⟩) (hold b hb)]
     exact h.holds b o v hv
end
end Go.HH
