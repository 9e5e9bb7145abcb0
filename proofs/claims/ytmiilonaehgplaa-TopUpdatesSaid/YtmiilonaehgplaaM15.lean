/-
  What the law needs, packed: Step6.
-/
import Derived.Deep.AppendSrc
import Derived.Test.YtmiilonaehgplaaM14
namespace Go.HH
open Go Go.RowKit
section
variable {P:Program} (w:World)
theorem run_append_room_row (t tx ty e:TypeId) (i:TypeInfo) (ht:P.underlying t=some (.slice e)) (hi:P.info? e=some i)
 (g sLen sCap:Nat) (cur:Array Value) (hg:w.heap[g]?=some (.cells cur e (0,0))) (x:Value) (m:Nat) (news:List Value) (hs:Src P i.size tx x m news w)
 (hroom:sLen+m<=sCap) (hfit:sLen * i.size+news.length<=cur.size) :
 (Builtin.append_ #[t,tx] ty #[.slice (some ⟨g,0,none⟩) sLen sCap,x]).run P w =
  .ok (.slice (some ⟨g,0,none⟩) (sLen+m) sCap) (w.setRow g (cur.toList.take (sLen * i.size)++news++cur.toList.drop (sLen * i.size+news.length)).toArray):=by
 have hst:=run_storeCells_at P g (sLen * i.size) e news 0 cur w hg (by simpa using hfit) hs.one
 simp only [Nat.add_zero] at hst
 rcases hs.kind with ⟨e',hk⟩ | hk <;> simp [Builtin.append_,run_underlying ht,run_underlying hk,sizeOf,typeInfo,hi,hs.len,hroom,hs.cells,Addr.add_lit,hst]
theorem run_append_src (t tx ty e:TypeId) (i:TypeInfo) (z:Value) (ht:P.underlying t=some (.slice e)) (hi:P.info? e=some i) (hz:i.zero=some z) (hzs:z.cells.size=i.size)
 (v:Value) (n:Nat) (xs:List Value) (hown:w.ownsRow 0 e i.size v n xs) (x:Value) (m:Nat) (news:List Value) (hs:Src P i.size tx x m news w)
 (h63:n+m<=maxLen) (hbytes:(n+m) * i.bytes<=140737488355328) :
 ∃ v' w',(Builtin.append_ #[t,tx] ty #[v,x]).run P w=.ok v' w'∧w'.ownsRow 0 e i.size v' (n+m) (xs++news) ∧
  w'.os=w.os∧w'.tape=w.tape∧w'.output=w.output∧w.heap.size<=w'.heap.size ∧
  ((∃ g,v.ownBlock=some g∧v'.ownBlock=some g∧∀ k,k≠g->w'.heap[k]?=w.heap[k]?) ∨
   ((v'.ownBlock=none∨v'.ownBlock=some w.heap.size)∧∀ k,k < w.heap.size->w'.heap[k]?=w.heap[k]?)):=by
 have hsmall:((n+m:Nat):Int)<=9223372036854775807:=by simp only [maxLen] at h63;omega
 have hlen:(xs++news).length=(n+m) * i.size:=by rw [List.length_append,hown.1,hs.newsLen,Nat.add_mul]
 have grown:∀ (base:Option Addr) (old:Nat),old < n+m->v=.slice base n old->(Builtin.firstCells i.size n (.slice base n old)).run P w.drew=.ok xs.toArray w.drew ->
  ∃ v' w',(Builtin.append_ #[t,tx] ty #[v,x]).run P w=.ok v' w'∧w'.ownsRow 0 e i.size v' (n+m) (xs++news) ∧
  w'.os=w.os∧w'.tape=w.tape∧w'.output=w.output∧w.heap.size<=w'.heap.size ∧
  ((∃ g,v.ownBlock=some g∧v'.ownBlock=some g∧∀ k,k≠g->w'.heap[k]?=w.heap[k]?) ∨
   ((v'.ownBlock=none∨v'.ownBlock=some w.heap.size)∧∀ k,k < w.heap.size->w'.heap[k]?=w.heap[k]?)):=by
  intro base old ho hv hold
  subst hv
  have hr:=run_append_grow_src (P:=P) w t tx ty e i z ht hi hz base n old xs hold x m news hs ho hsmall (growslice_fits ho hbytes)
  have hge:=grownCap_ge w (n+m) old e
  have hcm:grownCap w (n+m) old e<=maxLen:=grownCap_le_maxLen w (n+m) old e h63
  refine ⟨_,_,hr,⟨hlen,.inr ⟨w.heap.size,_,_,rfl,Nat.zero_le _,heap_alloc_new w.drew _,hge,hcm,?_,?_⟩⟩,rfl,rfl,rfl,by simp,.inr ⟨.inr rfl,fun k hk=>heap_alloc_old w.drew _ k hk⟩⟩
  · simp only [Array.size_append,List.size_toArray,size_zeroCells,hzs,hlen,<- Nat.add_mul]
    congr 1
    omega
  · simp only [Array.toList_append]
    rw [<- hlen]
    exact List.take_left
 rcases hown.2 with ⟨rfl,rfl⟩ | ⟨g,cap,cur,rfl,hbg,hg,hnc,hcm,hcs,htake⟩
 · have hx:xs=[]:=List.eq_nil_of_length_eq_zero (by simpa using hown.1)
   subst hx
   by_cases hm:m=0
   · subst hm
     have hn:news=[]:=List.eq_nil_of_length_eq_zero (by simpa using hs.newsLen)
     subst hn
     refine ⟨.slice none 0 0,w,?_,World.ownsRow_nil w 0 e i.size,rfl,rfl,rfl,Nat.le_refl _,.inr ⟨.inl rfl,fun _ _=>rfl⟩⟩
     rcases hs.kind with ⟨e',hk⟩ | hk <;> simp [Builtin.append_,run_underlying ht,run_underlying hk,sizeOf,typeInfo,hi,hs.len,hs.cells]
   · exact grown none 0 (by omega) rfl (run_firstCells_none w.drew i.size 0 0 0)
 · by_cases hroom:n+m<=cap
   · have hfit:n * i.size+news.length<=cur.size:=by rw [hs.newsLen,hcs,<- Nat.add_mul];exact Nat.mul_le_mul_right _ hroom
     have hr:=run_append_room_row (P:=P) w t tx ty e i ht hi g n cap cur hg x m news hs hroom hfit
     refine ⟨_,_,hr,⟨hlen,.inr ⟨g,cap,_,rfl,hbg,setRow_heap w g cur _ e _ hg,hroom,hcm,?_,?_⟩⟩,rfl,rfl,rfl,by simp [World.setRow],.inl ⟨g,rfl,rfl,fun k hk=>setRow_other w g k _ hk⟩⟩
     · simp only [List.size_toArray,List.length_append,List.length_take,List.length_drop,Array.length_toList]
       omega
     · rw [htake,<- hlen]
       exact List.take_left
   · have holds:∀ j u,xs[j]?=some u->w.cell? ((⟨g,0,none⟩:Addr).add j)=some u:=hown.cells (g:=g) rfl
     exact grown (some ⟨g,0,none⟩) cap (by omega) rfl (run_firstCells_some w.drew i.size n _ n cap xs hown.1 (by simpa using holds))
end
section
variable {C:Cfg} {D:List Deferred} {B:Nat} {T:Nat->Prop} {S:Store} {M:List Nat} {n:Nat} {st:St} {a:Act} {w:World}
theorem Sim.touch (h:Sim C D B T S M n st a w) (g:Option Nat) (hg:∀ k,g=some k->k ∉ M) (hno:∀ l e xs v k,LocAt st M a w l (.osl e xs) v->v.ownBlock=some k->g≠some k) (hT:∀ k,g=some k->B<=k∨T k)
 {S':Store} {w':World} (os:w'.os=w.os) (tape:w'.tape=w.tape) (output:w'.output=w.output) (size:w.heap.size<=w'.heap.size)
 (block:∀ k,k < w.heap.size->g≠some k->w'.heap[k]?=w.heap[k]?) (store:S.le S') (same:∀ k,k < w.heap.size->g≠some k->∀ o,S' k o=S k o)
 (holds:∀ b o v,S' b o=some v->w'.cell? ⟨b,o,none⟩=some v):Sim C D B T S' M n st a w'∧Grows B T S w S' w':=by
 have hM:∀ b,b ∈ M->w'.heap[b]?=w.heap[b]?:=fun b hb=>block b (h.mlt hb) (fun e=>hg b e hb)
 refine ⟨⟨holds,fun g cs hg=>(h.glob g cs hg).mono store (fun _ _ x=>x),h.gw.keep (fun b hb hnT=>block b (Nat.lt_of_lt_of_le hb h.hB) (fun e=>by rcases hT b e with h | h;omega;exact hnT h)),h.size,h.dfr,fun t=>(h.env t).mono store (fun _ _ x=>x),h.mlen,fun id bx hb=>?_,h.nodup,fun b hb o=>?_,h.mT,Nat.le_trans h.hB size,fun l e xs v hl=>?_,fun l l' e e' xs xs' v v' g hl hl'=>?_⟩,os,tape,output,size,fun k hk hnT=>?_,store,fun k hk hnT o=>?_⟩
 · obtain ⟨b,h1,h2⟩:=h.boxes id bx hb
   exact ⟨b,h1,h2.kept store (hM b (List.mem_of_getElem? h1))⟩
 · rw [same b (h.mlt hb) (fun e=>hg b e hb)];exact h.mS b hb o
 · have hl':=LocAt.back hM hl
   obtain ⟨h1,h2⟩:=h.own l e xs v hl'
   exact ⟨h1.kept fun k hk=>⟨block k (h1.lt hk) (hno l e xs v k hl' hk),same k (h1.lt hk) (hno l e xs v k hl' hk)⟩,h2⟩
 · exact h.apart l l' e e' xs xs' v v' g (LocAt.back hM hl) (LocAt.back hM hl')
 · have:=h.hB
   exact block k (by omega) (fun e=>by rcases hT k e with h | h;omega;exact hnT h)
 · have:=h.hB
   exact same k (by omega) (fun e=>by rcases hT k e with h | h;omega;exact hnT h) o
end
end Go.HH
