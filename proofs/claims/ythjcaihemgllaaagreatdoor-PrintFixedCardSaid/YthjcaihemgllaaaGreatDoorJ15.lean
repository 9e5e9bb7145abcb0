/-
  What the law needs, packed: Step6.
-/
import Derived.Deep.AppendSrc
import Derived.Test.YthjcaihemgllaaaGreatDoorJ14
open Go.Builtin renaming append_->Aa0
open List renaming eq_nil_of_length_eq_zero->Aa1,length_append->Aa3,size_toArray->Aa4,take_left->Aa5
open Nat renaming add_mul->Aa2
namespace Go.HH
open Go Go.RowKit
section
variable {P:Program} (w:World)
theorem Lk (t tx ty e:TypeId) (i:TypeInfo) (ht:P.underlying t=some (.slice e)) (hi:P.info? e=some i)
 (g sLen sCap:Nat) (cur:Array Value) (hg:w.heap[g]?=some (.cells cur e (0,0))) (x:Value) (m:Nat) (news:List Value) (hs:Src P i.size tx x m news w)
 (Zn:sLen+m<=sCap) (ml:sLen * i.size+news.length<=cur.size) :
 (Aa0 #[t,tx] ty #[.slice (some ⟨g,0,none⟩) sLen sCap,x]).run P w =
  .ok (.slice (some ⟨g,0,none⟩) (sLen+m) sCap) (w.setRow g (cur.toList.take (sLen * i.size)++news++cur.toList.drop (sLen * i.size+news.length)).toArray):=by
 have Ez:=run_storeCells_at P g (sLen * i.size) e news 0 cur w hg (by simpa using ml) hs.one;simp only [Nat.add_zero] at Ez;rcases hs.kind with ⟨e',hk⟩ | hk <;> simp [Aa0,run_underlying ht,run_underlying hk,sizeOf,typeInfo,hi,hs.len,Zn,hs.cells,Addr.add_lit,Ez]
theorem QY (t tx ty e:TypeId) (i:TypeInfo) (z:Value) (ht:P.underlying t=some (.slice e)) (hi:P.info? e=some i) (hz:i.zero=some z) (hzs:z.cells.size=i.size)
 (v:Value) (n:Nat) (xs:List Value) (K1:w.ownsRow 0 e i.size v n xs) (x:Value) (m:Nat) (news:List Value) (hs:Src P i.size tx x m news w)
 (h63:n+m<=maxLen) (hbytes:(n+m) * i.bytes<=140737488355328) :
 ∃ v' w',(Aa0 #[t,tx] ty #[v,x]).run P w=.ok v' w'/\w'.ownsRow 0 e i.size v' (n+m) (xs++news) /\
  w'.os=w.os/\w'.tape=w.tape/\w'.output=w.output/\w.heap.size<=w'.heap.size /\
  ((∃ g,v.ownBlock=some g/\v'.ownBlock=some g/\∀ k,k≠g->w'.heap[k]?=w.heap[k]?) \/
   ((v'.ownBlock=none\/v'.ownBlock=some w.heap.size)/\∀ k,k < w.heap.size->w'.heap[k]?=w.heap[k]?)):=by
 have hsmall:((n+m:Nat):Int)<=9223372036854775807:=by simp only [maxLen] at h63;omega
 have hlen:(xs++news).length=(n+m) * i.size:=by rw [Aa3,K1.1,hs.newsLen,Aa2]
 have grown:∀ (base:Option Addr) (old:Nat),old < n+m->v=.slice base n old->(Builtin.firstCells i.size n (.slice base n old)).run P w.drew=.ok xs.toArray w.drew ->
  ∃ v' w',(Aa0 #[t,tx] ty #[v,x]).run P w=.ok v' w'/\w'.ownsRow 0 e i.size v' (n+m) (xs++news) /\
  w'.os=w.os/\w'.tape=w.tape/\w'.output=w.output/\w.heap.size<=w'.heap.size /\
  ((∃ g,v.ownBlock=some g/\v'.ownBlock=some g/\∀ k,k≠g->w'.heap[k]?=w.heap[k]?) \/
   ((v'.ownBlock=none\/v'.ownBlock=some w.heap.size)/\∀ k,k < w.heap.size->w'.heap[k]?=w.heap[k]?)):=by
  intro base old ho hv hold;subst hv;have hr:=run_append_grow_src (P:=P) w t tx ty e i z ht hi hz base n old xs hold x m news hs ho hsmall (growslice_fits ho hbytes);have QJ:=grownCap_ge w (n+m) old e;have uk:grownCap w (n+m) old e<=maxLen:=grownCap_le_maxLen w (n+m) old e h63;refine ⟨_,_,hr,⟨hlen,.inr ⟨w.heap.size,_,_,rfl,Nat.zero_le _,heap_alloc_new w.drew _,QJ,uk,?_,?_⟩⟩,rfl,rfl,rfl,by simp,.inr ⟨.inr rfl,fun k hk=>heap_alloc_old w.drew _ k hk⟩⟩
  · simp only [Array.size_append,Aa4,size_zeroCells,hzs,hlen,<- Aa2]
    congr 1
    omega
  · simp only [Array.toList_append]
    rw [<- hlen];exact Aa5
 rcases K1.2 with ⟨rfl,rfl⟩ | ⟨g,cap,cur,rfl,hbg,hg,yI,uk,JI,htake⟩
 · have hx:xs=[]:=Aa1 (by simpa using K1.1)
   subst hx;by_cases hm:m=0
   · subst hm
     have hn:news=[]:=Aa1 (by simpa using hs.newsLen);subst hn;refine ⟨.slice none 0 0,w,?_,World.ownsRow_nil w 0 e i.size,rfl,rfl,rfl,Nat.le_refl _,.inr ⟨.inl rfl,fun _ _=>rfl⟩⟩;rcases hs.kind with ⟨e',hk⟩ | hk <;> simp [Aa0,run_underlying ht,run_underlying hk,sizeOf,typeInfo,hi,hs.len,hs.cells]
   · exact grown none 0 (by omega) rfl (run_firstCells_none w.drew i.size 0 0 0)
 · by_cases Zn:n+m<=cap
   · have ml:n * i.size+news.length<=cur.size:=by rw [hs.newsLen,JI,<- Aa2];exact Nat.mul_le_mul_right _ Zn
     have hr:=Lk (P:=P) w t tx ty e i ht hi g n cap cur hg x m news hs Zn ml;refine ⟨_,_,hr,⟨hlen,.inr ⟨g,cap,_,rfl,hbg,setRow_heap w g cur _ e _ hg,Zn,uk,?_,?_⟩⟩,rfl,rfl,rfl,by simp [World.setRow],.inl ⟨g,rfl,rfl,fun k hk=>setRow_other w g k _ hk⟩⟩
     · simp only [Aa4,Aa3,List.length_take,List.length_drop,Array.length_toList]
       omega
     · rw [htake,<- hlen]
       exact Aa5
   · have holds:∀ j u,xs[j]?=some u->w.cell? ((⟨g,0,none⟩:Addr).add j)=some u:=K1.cells (g:=g) rfl
     exact grown (some ⟨g,0,none⟩) cap (by omega) rfl (run_firstCells_some w.drew i.size n _ n cap xs K1.1 (by simpa using holds))
end
section
variable {C:Cfg} {D:List Deferred} {B:Nat} {T:Nat->Prop} {S:AI} {M:List Nat} {n:Nat} {st:St} {a:Act} {w:World}
theorem Sim.touch (h:Sim C D B T S M n st a w) (g:Option Nat) (hg:∀ k,g=some k->k ∉ M) (GU:∀ l e xs v k,LocAt st M a w l (.osl e xs) v->v.ownBlock=some k->g≠some k) (hT:∀ k,g=some k->B<=k\/T k)
 {S':AI} {w':World} (os:w'.os=w.os) (tape:w'.tape=w.tape) (output:w'.output=w.output) (size:w.heap.size<=w'.heap.size)
 (block:∀ k,k < w.heap.size->g≠some k->w'.heap[k]?=w.heap[k]?) (store:S.le S') (same:∀ k,k < w.heap.size->g≠some k->∀ o,S' k o=S k o)
 (holds:∀ b o v,S' b o=some v->w'.cell? ⟨b,o,none⟩=some v):Sim C D B T S' M n st a w'/\Grows B T S w S' w':=by
 have hM:∀ b,b ∈ M->w'.heap[b]?=w.heap[b]?:=fun b hb=>block b (h.mlt hb) (fun e=>hg b e hb);refine ⟨⟨holds,fun g cs hg=>(h.glob g cs hg).mono store (fun _ _ x=>x),h.gw.keep (fun b hb Ur=>block b (Nat.lt_of_lt_of_le hb h.hB) (fun e=>by rcases hT b e with h | h;omega;exact Ur h)),h.size,h.dfr,fun t=>(h.env t).mono store (fun _ _ x=>x),h.mlen,fun id bx hb=>?_,h.nodup,fun b hb o=>?_,h.mT,Nat.le_trans h.hB size,fun l e xs v hl=>?_,fun l l' e e' xs xs' v v' g hl D4=>?_⟩,os,tape,output,size,fun k hk Ur=>?_,store,fun k hk Ur o=>?_⟩
 · obtain ⟨b,h1,h2⟩:=h.boxes id bx hb
   exact ⟨b,h1,h2.kept store (hM b (List.mem_of_getElem? h1))⟩
 · rw [same b (h.mlt hb) (fun e=>hg b e hb)];exact h.mS b hb o
 · have D4:=LocAt.back hM hl
   obtain ⟨h1,h2⟩:=h.own l e xs v D4;exact ⟨h1.kept fun k hk=>⟨block k (h1.lt hk) (GU l e xs v k D4 hk),same k (h1.lt hk) (GU l e xs v k D4 hk)⟩,h2⟩
 · exact h.apart l l' e e' xs xs' v v' g (LocAt.back hM hl) (LocAt.back hM D4)
 · have:=h.hB
   exact block k (by omega) (fun e=>by rcases hT k e with h | h;omega;exact Ur h)
 · have:=h.hB
   exact same k (by omega) (fun e=>by rcases hT k e with h | h;omega;exact Ur h) o
end
end Go.HH
