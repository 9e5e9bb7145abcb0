/-
  What the law needs, packed: Step7.
-/
import Derived.Test.YthjabmlbmnadjaaGreatJ15
open List renaming getElem?_eq_getElem->yW,getElem_toArray->yX,getD_eq_getElem?_getD->yY,getElem?_eq_none->yZ,eq_nil_of_length_eq_zero->y0,length_append->y2,getElem?_set_self->y3,getElem?_set_ne->y4,toArray->y6
open Nat renaming lt_or_ge->y1,zero_add->y7
open Go.Value renaming ownBlock->y5
open Ne renaming symm->y8
open ByteArray renaming size->y9
namespace Go.HH
open Go Go.RowKit
section
variable {C:Cfg} {D:List Deferred} {B:Nat} {T:Nat->Prop} {S:AY} {M:List Nat} {n:Nat} {st:St} {a:Act} {w:World}
theorem WY {bx:List PBox} {id j:Nat} {t:TypeId} {cs:List PV} (h:id < bx.length):Bg (bx.set id (.cells t cs)) j=if j=id then some cs else Bg bx j:=by
 unfold Bg;by_cases hj:j=id
 · subst hj;rw [if_pos rfl,y3 h]
 · rw [if_neg hj,y4 (y8 hj)]
theorem Iy {bx:List PBox} {id:Nat} {cs:List PV} (h:Bg bx id=some cs):id < bx.length:=by
 rcases y1 id bx.length with h' | h'
 · exact h'
 · unfold Bg at h;rw [yZ h'] at h;cases h
theorem WZ {bx:List PBox} {id:Nat} {cs:List PV} (h:Bg bx id=some cs):∃ t,bx[id]?=some (.cells t cs):=by
 unfold Bg at h;split at h
 · rename_i t c hc;injection h with h;subst h;exact ⟨t,hc⟩
 · cases h
theorem Sim.roLoc (h:Sim C D B T S M n st a w) (l:Loc) {e:TypeId} {xs:List PV} (he:FZ st l=.osl e xs) :
 Sim C D B T S M n (Gx st l (.sl xs)) a w/\(∀ l' e' xs' v,LocAt (Gx st l (.sl xs)) M a w l' (.osl e' xs') v->LocAt st M a w l' (.osl e' xs') v/\l'≠l):=by
 cases l with
 | tmp t=>
  refine ⟨h.roT t he,fun l' e' xs' v hl=>?_⟩;cases l' with
  | tmp t'=>
   obtain ⟨h1,h2⟩:=hl;simp only [Gx] at h1;rw [Eb] at h1;by_cases ht:t'=t
   · rw [if_pos ht] at h1;cases h1
   · rw [if_neg ht] at h1;exact ⟨⟨h1,h2⟩,by simpa using ht⟩
  | box id off=>exact ⟨hl,by simp⟩
 | box id off=>
  simp only [FZ] at he;split at he
  · rename_i cs Jc
    have Bq:=Iy Jc;obtain ⟨bt,D4⟩:=WZ Jc
    have Yo:off < cs.length:=by
     rcases y1 off cs.length with hh | hh
     · exact hh
     · rw [yY,yZ hh] at he;cases he
    have Ko:Gx st (.box id off) (.sl xs)={ st with bx:=st.bx.set id (.cells bt (cs.set off (.sl xs))) }:=by simp [Gx,RT,D4]
    have Fk:cs[off]=.osl e xs:=by simpa [yY,yW Yo] using he
    have loc:∀ l' e' xs' v,LocAt (Gx st (.box id off) (.sl xs)) M a w l' (.osl e' xs') v->LocAt st M a w l' (.osl e' xs') v/\l'≠.box id off:=by
     intro l' e' xs' v hl;rw [Ko] at hl;cases l' with
     | tmp t=>exact ⟨hl,by simp⟩
     | box id' off'=>
      obtain ⟨cs',b,h1,h2,h3,h4⟩:=hl;simp only at h1;rw [WY Bq] at h1;by_cases Ad:id'=id
      · subst Ad
        rw [if_pos rfl] at h1;injection h1 with h1
        subst h1;by_cases ho:off'=off
        · subst ho;rw [y3 Yo] at h2;injection h2 with h2;cases h2
        · rw [y4 (y8 ho)] at h2
          exact ⟨⟨cs,b,Jc,h2,h3,h4⟩,by simpa using ho⟩
      · rw [if_neg Ad] at h1
        exact ⟨⟨cs',b,h1,h2,h3,h4⟩,by simp [Ad]⟩
    refine ⟨?_,loc⟩;refine ⟨h.holds,h.glob,h.gw,h.size,h.dfr,by rw [Ko];exact h.env,by rw [Ko];simpa using h.mlen,fun id' bx hb=>?_,h.nodup,h.mS,h.mT,h.hB,fun l' e' xs' v hl=>h.own l' e' xs' v (loc _ _ _ _ hl).1,fun l1 l2 e1 e2 x1 x2 v1 v2 g VM Gk=>h.apart l1 l2 e1 e2 x1 x2 v1 v2 g (loc _ _ _ _ VM).1 (loc _ _ _ _ Gk).1⟩;rw [Ko] at hb;simp only at hb;by_cases Ad:id'=id
    · subst Ad
      rw [y3 Bq] at hb;injection hb with hb
      subst hb;obtain ⟨b,h1,h2⟩:=h.boxes id' _ D4;refine ⟨b,h1,?_⟩;cases h2 with
      | cells _ cs b c hh l h1 hr=>
       refine .cells _ _ b c hh (by simpa using l) h1 (fun i hi Ey=>?_);rw [List.getElem_set];split
       · rename_i l3
         subst l3;have:=hr off Yo Ey;rw [Fk] at this;cases this with | osl e xs v h=>exact h
       · exact hr i (by simpa using hi) Ey
    · rw [y4 (y8 Ad)] at hb
      exact h.boxes id' bx hb
  · cases he
theorem Od (h:Sim C D B T S M n st a w) {al:List (Nat×Loc)} (Hb:Hu M a w al) {e:TypeId} {x:Operand} {l:Option Loc} {xs:List PV} (he:DV C st al e x=some (l,xs)) :
 (l=none/\xs=[]/\a.eval x=.slice none 0 0)\/∃ l',l=some l'/\FZ st l'=.osl e xs/\LocAt st M a w l' (.osl e xs) (a.eval x):=by
 unfold DV at he;have hx:=h.raw x;split at he
 · rename_i hr
   injection he with he
   injection he with h1 h2
   subst h1;subst h2;rw [hr] at hx;exact .inl ⟨rfl,rfl,hx.nils_inv⟩
 · rename_i e' xs' hr
   split at he
   · rename_i rP
     subst rP;split at he
     · rename_i t
       injection he with he
       injection he with h1 h2
       subst h1;subst h2;exact .inr ⟨.tmp t,rfl,hr,hr,rfl⟩
     · cases he
   · cases he
 · split at he
   · rename_i t
     split at he
     · rename_i d l' hf
       split at he
       · rename_i e' xs' hl
         split at he
         · rename_i rP
           subst rP;injection he with he
           injection he with h1 h2
           subst h1;subst h2;have N2:=List.mem_of_find?_eq_some hf;have hd:=List.find?_some hf;simp only [beq_iff_eq] at hd;have hc:=Hb _ N2;simp only [hd] at hc;refine .inr ⟨l',rfl,hl,?_⟩;cases l' with
           | tmp t'=>exact ⟨hl,hc.symm⟩
           | box id off=>
            obtain ⟨b,h1,h2⟩:=hc;simp only [FZ] at hl;split at hl
            · rename_i cs Jc
              have Yo:off < cs.length:=by
               rcases y1 off cs.length with hh | hh
               · exact hh
               · rw [yY,yZ hh] at hl;cases hl
              refine ⟨cs,b,Jc,?_,h1,h2⟩;rw [yW Yo];simpa [yY,yW Yo] using hl
            · cases hl
         · cases he
       · cases he
     · cases he
   · cases he
 · cases he
theorem LocAt.rep (h:Sim C D B T S M n st a w) {l:Loc} {p:PV} {v:Value} (hl:LocAt st M a w l p v):Rep S M p v:=by
 cases l with
 | tmp t=>
  obtain ⟨h1,h2⟩:=hl;rw [<- h1,<- h2];exact h.env t
 | box id off=>
  obtain ⟨cs,b,h1,h2,h3,h4⟩:=hl;obtain ⟨b',c,e,hm,hh,JE,ho,hr⟩:=BoxAt.get h h1;rw [h3] at hm;injection hm with hm
  subst hm
  have Yo:off < cs.length:=by
   rcases y1 off cs.length with hh | hh
   · exact hh
   · rw [yZ hh] at h2;cases h2
  rw [cell_of_heap hh,Array.getElem?_eq_getElem (by omega)] at h4;rw [yW Yo] at h2;injection h2 with h2
  injection h4 with h4
  rw [<- h2,<- h4];exact hr off Yo (by omega)
theorem Gm.append {ps qs:List PV} {vs us:List Value} (h:Gm S M ps vs.toArray) (k:Gm S M qs us.toArray):Gm S M (ps++qs) (vs++us).toArray:=by
 obtain ⟨h1,h2,h3⟩:=h;obtain ⟨k1,k2,k3⟩:=k;simp only [List.size_toArray] at h1 k1;have hL:CD S M ps vs:=⟨h1.symm,fun i a b=>by have:=h3 i a (by simpa using b);rw [yX] at this;exact this⟩;have kL:CD S M qs us:=⟨k1.symm,fun i a b=>by have:=k3 i a (by simpa using b);rw [yX] at this;exact this⟩;have hk:=hL.append kL;refine ⟨by simp [h1,k1],fun i hi=>?_,fun i hi Ey=>by simpa using hk.2 i hi (by simpa using Ey)⟩;simp only [yX];by_cases Bq:i < vs.length
 · rw [List.getElem_append_left Bq];have:=h2 i (by simpa using Bq);rw [yX] at this;exact this
 · rw [List.getElem_append_right (by omega)];have:=k2 (i - vs.length) (by simp at hi |-;omega);rw [yX] at this;exact this
theorem Gm.mono {S':AY} {ps:List PV} {c:Array Value} (hS:S.le S') (h:Gm S M ps c):Gm S' M ps c:=⟨h.1,h.2.1,fun i a b=>(h.2.2 i a b).mono hS (fun _ _ x=>x)⟩
theorem W0 {e:TypeId} {i:TypeInfo} {t:TypeId} {x:PV} {vx:Value} {ys:List PV} (hn:N9 C e i.size t x=some ys) (hx:Rep S M x vx)
 (hS:∀ b o v,S b o=some v->w.cell? ⟨b,o,none⟩=some v) (hy:∀ y ∈ ys,y.cells.length=i.size) :
 ∃ news,Src C.P i.size t vx ys.length news w/\Gm S M (flat ys) news.toArray:=by
 have YE:=DA hy;unfold N9 at hn;split at hn
 · rename_i el x' ht
   obtain ⟨ad,cap,rfl,K4,hc⟩:=hx.elems_inv hn;rcases hc with rfl | ⟨b,o,rfl,hz,f,h1,h2,h3⟩
   · refine ⟨[],?_,by simp [flat,Gm]⟩
     cases ad with
     | none=>exact Src.ofNil w ht cap
     | some ad=>exact Src.ofSlice w ht ad 0 cap [] (by simp) (fun j u hu=>by simp at hu) (fun u hu=>by simp at hu)
   · refine ⟨(List.range (flat ys).length).map f,Src.ofSlice w ht _ _ cap _ (by simp [YE]) (fun j u hu=>?_) (fun u hu=>?_),?_⟩
     · rw [List.getElem?_map] at hu
       obtain ⟨k,hk,rfl⟩:=Option.map_eq_some_iff.1 hu
       have hj:j < (flat ys).length:=by
        rcases y1 j (flat ys).length with hh | hh
        · exact hh
        · rw [yZ (by simp;exact hh)] at hk;cases hk
       rw [List.getElem?_range hj] at hk;injection hk with hk
       subst hk;rw [EC];exact hS _ _ _ (h1 j hj)
     · obtain ⟨k,hk,rfl⟩:=List.mem_map.1 hu
       exact h2 k (by simpa using hk)
     · refine ⟨by simp,fun j hj=>?_,fun j hj Ul=>?_⟩
       · simp at hj |-;exact h2 j hj
       · simp;exact h3 j hj
 · rename_i s ht
   split at hn
   · rename_i he
     split at hn
     · rename_i Ig
       injection hn with hn
       subst hn;obtain rfl:=hx.str_inv;have:=Src.ofString (P:=C.P) w ht (⟨s.toArray⟩:ByteArray);rw [Ig];have JE:(⟨s.toArray⟩:ByteArray).size=s.length:=by simp [y9]
       refine ⟨byteCells ⟨s.toArray⟩,by rw [List.length_map,<- JE];exact this,?_⟩
       have hflat:flat (s.map fun b=>PV.int .u8 b.toNat)=s.map fun b=>PV.int .u8 b.toNat:=by
        simp [flat,PV.cells,List.flatMap_map];rw [List.map_eq_flatMap]
       rw [hflat];refine ⟨by simp [byteCells],fun j hj=>?_,fun j hj Ul=>?_⟩
       · simp [byteCells] at hj |-;rfl
       · simp [byteCells];exact .int _ _
     · cases hn
   · cases hn
 · cases hn
theorem step_append (h:Sim C D B T S M n st a w) {o:Oper} (hd:∀ k,o.dst=some k->k < n) {al:List (Nat×Loc)} (Hb:Hu M a w al) {args:Array Operand} {argTypes:Array TypeId}
 (ho:o.op=.call { callee:=.builtin .append,args,argTypes }) {r:OpR} (hr:L1 C st al args argTypes o.dst=some r):F5 C D B T S M n a w o r:=by
 unfold L1 at hr;split at hr
 · rename_i s x t0 t1 fy htys
   unfold EW at hr;split at hr
   · rename_i e ht0
     split at hr
     · rename_i i hi
       split at hr
       · rename_i l xs ys Ip DZ
         split at hr
         · cases hr
         · rename_i Hr
           simp only [not_or,Nat.not_lt] at Hr;obtain ⟨rL,hz,mA,sR,FA,wa⟩:=Hr
           have hy:∀ y ∈ ys,y.cells.length=i.size:=by
            intro y hy';have:(ys.all fun y=>y.cells.length == i.size)=true:=by simpa using FA
            rw [List.all_eq_true] at this;simpa using this y hy'
           injection hr with hr
           subst hr
           obtain ⟨zv,my⟩:∃ zv,i.zero=some zv:=by
            cases xL:i.zero with
            | none=>simp [xL] at hz
            | some zv=>exact ⟨zv,rfl⟩
           have xK:zv.cells.size=i.size:=by simpa [my] using wa
           obtain ⟨news,hsrc,hnews⟩:=W0 (w:=w) DZ (h.opd x) h.holds hy
           -- the slice that is appended to
           have own:∃ vals,w.ownsRow 0 e i.size (a.eval s) xs.length vals/\(∀ x ∈ xs,x.cells.length=i.size)/\Gm S M (flat xs) vals.toArray /\
            (∀ g,(a.eval s).ownBlock=some g->(g ∉ M/\∀ j,xs.length * i.size<=j->S g j=none)/\(B<=g\/T g)):=by
            rcases Od h Hb Ip with ⟨_,rfl,hv⟩ | ⟨l',_,_,hl⟩
            · rw [hv]
              exact ⟨[],World.ownsRow_nil w 0 e i.size,by simp,by simp [flat,Gm],fun g hg=>by simp [y5] at hg⟩
            · obtain ⟨⟨i',vals,Ey,HC,hx,hg⟩,sS⟩:=h.own l' e xs _ hl
              rw [hi] at Ey;injection Ey with Ey
              subst Ey;refine ⟨vals,HC,hx,?_,fun g rQ=>⟨hg g rQ,sS g rQ⟩⟩;have YE:=DA hx;have Ez:=hl.rep h;generalize hv:a.eval s=v at *;cases Ez with
              | osl e xs v Ez=>
               have ve:=HC.1;by_cases dH:xs=[]
               · subst dH
                 have:vals=[]:=y0 (by simpa using ve);subst this;simp [flat,Gm]
               · obtain ⟨ad,cap,sQ,K4,hc⟩:=Ez.elems_inv (xs:=xs) rfl
                 rcases hc with hc | ⟨b,o,rfl,hz,f,h1,h2,h3⟩
                 · exact absurd hc dH
                 · rcases HC.2 with ⟨e1,e2⟩ | ⟨g,cap',cur,e1,_⟩
                   · exact absurd (y0 e2) dH
                   · have Dz:=HC.cells (g:=g) (by rw [e1] <;> rfl)
                     rw [e1] at sQ;injection sQ with a1 a2 a3
                     injection a1 with a1
                     injection a1 with b1 b2 b3
                     subst b1;subst b2
                     have hf:∀ j (hj:j < (flat xs).length),vals[j]'(by omega)=f j:=by
                      intro j hj;have c1:=h.holds _ _ _ (h1 j hj);have c2:=Dz j (vals[j]'(by omega)) (yW (by omega));rw [EC] at c2;rw [c1] at c2;injection c2 with c2
                      exact c2.symm
                     refine ⟨by simp;omega,fun j hj=>?_,fun j hj Ul=>?_⟩
                     · simp at hj
                       simp only [yX];rw [hf j (by omega)];exact h2 j (by omega)
                     · simp only [yX]
                       rw [hf j hj];exact h3 j hj
           obtain ⟨vals,HC,rM,hvals,sT⟩:=own;have K4:xs.length+ys.length<=maxLen:=by unfold It at sR;unfold maxLen;omega
           have hbyt:(xs.length+ys.length) * i.bytes<=140737488355328:=by unfold It at mA;omega
           obtain ⟨v',w',CA,fz,os,tape,output,size,hwhere⟩:=R7 (P:=C.P) w t0 t1 o.type e i zv ht0 hi my xK (a.eval s) xs.length vals HC (a.eval x) ys.length news hsrc K4 hbyt
           -- the state once the old place has let go
           obtain ⟨st1,hst1,WM,hloc1⟩:∃ st1,st1=Qd st l xs/\Sim C D B T S M n st1 a w /\
            (∀ l' e' xs' u k,LocAt st1 M a w l' (.osl e' xs') u->u.ownBlock=some k->(a.eval s).ownBlock≠some k):=by
            rcases Od h Hb Ip with ⟨rfl,_,hv⟩ | ⟨l',rfl,rR,hl⟩
            · exact ⟨st,rfl,h,fun l' e' xs' u k _ _=>by rw [hv];simp [y5]⟩
            · obtain ⟨h1,h2⟩:=h.roLoc l' rR
              refine ⟨_,rfl,h1,fun l2 e' xs' u k Gk hu hk=>?_⟩;obtain ⟨h3,h4⟩:=h2 l2 e' xs' u Gk;exact h4 (h.apart l2 l' _ _ _ _ _ _ k h3 hl hu hk)
           rw [<- hst1]
           -- the store
           have hall2:(vals++news).length=(xs.length+ys.length) * i.size:=fz.1
           let S':AY:=fun b o=>if v'.ownBlock=some b then (vals++news)[o]? else S b o
           have Rt:∀ g,v'.ownBlock=some g->(a.eval s).ownBlock=some g\/g=w.heap.size:=by
            intro g hg;rcases hwhere with ⟨g',e1,e2,_⟩ | ⟨e1,_⟩
            · rw [hg] at e2;injection e2 with e2;subst e2;exact .inl e1
            · rcases e1 with e1 | e1
              · rw [hg] at e1;cases e1
              · rw [hg] at e1;injection e1 with e1;exact .inr e1
           have Yp:∀ k,k < w.heap.size->v'.ownBlock≠some k->w'.heap[k]?=w.heap[k]?:=by
            intro k hk DZ;rcases hwhere with ⟨g',e1,e2,e3⟩ | ⟨_,e3⟩
            · exact e3 k (fun e=>DZ (by rw [e2,e]))
            · exact e3 k hk
           have hle:S.le S':=by
            intro b j u hu;show (if v'.ownBlock=some b then (vals++news)[j]? else S b j)=some u;split
            · rename_i hb
              rcases Rt b hb with e1 | e1
              · have hj:j < xs.length * i.size:=by
                 rcases y1 j (xs.length * i.size) with hh | hh
                 · exact hh
                 · rw [(sT b e1).1.2 j hh] at hu;cases hu
                have ve:=HC.1;have c1:=h.holds _ _ _ hu;have c2:=HC.cells (g:=b) e1 j (vals[j]'(by omega)) (yW (by omega));rw [EC] at c2;simp only [y7] at c2;rw [c1] at c2;rw [List.getElem?_append_left (by omega),yW (by omega)];exact c2.symm
              · rw [Qh h.holds b (by omega) j] at hu;cases hu
            · exact hu
           have hholds:∀ b o v,S' b o=some v->w'.cell? ⟨b,o,none⟩=some v:=by
            intro b j u hu;have iO:(if v'.ownBlock=some b then (vals++news)[j]? else S b j)=some u:=hu;split at iO
            · rename_i hb
              have:=fz.cells (g:=b) hb j u iO;rw [EC] at this;simpa using this
            · rename_i hb
              have hblt:=K9 (h.holds b j u iO);rw [World.cell?_of_block (a:=⟨b,j,none⟩) (Yp b hblt hb)];exact h.holds b j u iO
           have sU:∀ k,v'.ownBlock=some k->k ∉ M:=by
            intro k hk hm;rcases Rt k hk with e1 | e1
            · exact (sT k e1).1.1 hm
            · have:=h.mlt hm;omega
           have HM:∀ l e xs v k,LocAt st1 M a w l (.osl e xs) v->v.ownBlock=some k->v'.ownBlock≠some k:=by
            intro l2 e2 xs2 u k Gk hu hk;rcases Rt k hk with e1 | e1
            · exact hloc1 l2 e2 xs2 u k Gk hu e1
            · have:=(WM.own l2 e2 xs2 u Gk).1.lt hu;omega
           have sS:∀ k,v'.ownBlock=some k->B<=k\/T k:=by
            intro k hk;rcases Rt k hk with e1 | e1
            · exact (sT k e1).2
            · have:=h.hB;exact .inl (by omega)
           obtain ⟨aW,Ym⟩:=WM.touch v'.ownBlock sU HM sS os tape output size Yp hle (fun k _ DZ o=>by
            show (if v'.ownBlock=some k then (vals++news)[o]? else S k o)=S k o;rw [if_neg DZ]) hholds
           have YE:flat (xs++ys)=flat xs++flat ys:=Ix xs ys;have vg:Gm S' M (flat (xs++ys)) (vals++news).toArray:=by rw [YE];exact (hvals.append hnews).mono hle
           have iP:∀ x ∈ xs++ys,x.cells.length=i.size:=by
            intro x hx;rcases List.mem_append.1 hx with hx | hx
            · exact rM x hx
            · exact hy x hx
           have hfll:(flat (xs++ys)).length=(vals++news).length:=by rw [DA iP,hall2,y2]
           have Ez:Rep S' M (.osl e (xs++ys)) v':=by
            refine .osl _ _ _ ?_;rcases fz.2 with ⟨rfl,e2⟩ | ⟨g,cap,cur,rfl,_,_,Yq,_⟩
            · have:xs++ys=[]:=y0 (by rw [y2];exact e2)
              rw [this];exact .slE none 0
            · have hlen:xs.length+ys.length=(xs++ys).length:=by simp
              rw [hlen];by_cases dH:xs++ys=[]
              · rw [dH];exact .slE _ _
              · refine .sl _ g 0 cap (fun j=>(vals++news).getD j undef) (by rw [<- hlen];exact Yq) ⟨_,iP⟩ (fun j hj=>?_) (fun j hj=>?_) (fun j hj=>?_)
                · show (if (Value.slice (some ⟨g,0,none⟩) (xs++ys).length cap).ownBlock=some g then (vals++news)[0+j]? else S g (0+j))=_
                  rw [if_pos (by rfl),y7,yY,yW (by omega)];rfl
                · have:=vg.2.1 j (by simp;simp at hfll;omega)
                  simp only [yX] at this;rw [yY,yW (by omega)];exact this
                · have:=vg.2.2 j hj (by simp;simp at hfll;omega)
                  simp only [yX] at this;rw [yY,yW (by omega)];exact this
           have hown':OwnAt C.P S' M w' e (xs++ys) v':=⟨i,vals++news,hi,by rw [y2];exact fz,iP,fun g hg=>⟨sU g hg,fun j hj=>by
            show (if v'.ownBlock=some g then (vals++news)[j]? else S g j)=none;rw [if_pos hg,yZ (by rw [hall2];rw [y2] at hj;exact hj)]⟩⟩
           intro K Q hK
           have hv:(execOp a.eval o).run C.P w=.ok (.value v') w':=by
            rw [execOp,ho];have e1:args=#[s,x]:=by have:=congrArg y6 fy;simpa using this
            have e2:argTypes=#[t0,t1]:=by have:=congrArg y6 htys;simpa using this
            simp only [e1,e2,resolve,invoke,builtin,Sem.run_bind,Sem.run_pure,Result.andThen_ok,List.map_toArray,List.map_cons,List.map_nil,CA]
           refine CG hv (hK S' M _ w' (aW.putG o.dst hd Ez (fun e' xs' heq=>?_)) Ym (List.prefix_refl _) ?_)
           · injection heq with e1 e2
             subst e1;subst e2;refine ⟨hown',sS,fun l2 e2 xs2 u g _ Gk hu hk=>?_⟩;exact HM l2 e2 xs2 u g (LocAt.back (fun b hb=>Yp b (h.mlt hb) (fun e=>sU b e hb)) Gk) hu hk
           · exact Hb.put h.size hd _ (fun _ _ x=>x) (fun b hb=>Yp b (h.mlt hb) (fun e=>sU b e hb))
       · cases hr
     · cases hr
   · cases hr
 · cases hr
end
end Go.HH
