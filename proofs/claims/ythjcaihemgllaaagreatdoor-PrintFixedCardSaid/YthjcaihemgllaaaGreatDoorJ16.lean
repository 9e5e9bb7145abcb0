/-
  What the law needs, packed: Step7.
-/
import Derived.Test.YthjcaihemgllaaaGreatDoorJ15
open List renaming getElem?_eq_getElem->Aa0,getElem_toArray->Aa1,getD_eq_getElem?_getD->Aa2,getElem?_eq_none->Aa3,eq_nil_of_length_eq_zero->Aa4,length_append->Aa6,getElem?_set_self->Aa7,getElem?_set_ne->Aa8,toArray->Aaa
open Nat renaming lt_or_ge->Aa5,zero_add->Aab
open Go.Value renaming ownBlock->Aa9
open Go.Src renaming ofSlice->Aac
namespace Go.HH
open Go Go.RowKit
section
variable {C:Cfg} {D:List Deferred} {B:Nat} {T:Nat->Prop} {S:AI} {M:List Nat} {n:Nat} {st:St} {a:Act} {w:World}
theorem VQ {bx:List PBox} {id j:Nat} {t:TypeId} {cs:List PV} (h:id < bx.length):A0 (bx.set id (.cells t cs)) j=if j=id then some cs else A0 bx j:=by
 unfold A0;by_cases hj:j=id
 · subst hj;rw [if_pos rfl,Aa7 h]
 · rw [if_neg hj,Aa8 (Ne.symm hj)]
theorem HD {bx:List PBox} {id:Nat} {cs:List PV} (h:A0 bx id=some cs):id < bx.length:=by
 rcases Aa5 id bx.length with h' | h'
 · exact h'
 · unfold A0 at h;rw [Aa3 h'] at h;cases h
theorem VR {bx:List PBox} {id:Nat} {cs:List PV} (h:A0 bx id=some cs):∃ t,bx[id]?=some (.cells t cs):=by
 unfold A0 at h;split at h
 · rename_i t c hc;injection h with h;subst h;exact ⟨t,hc⟩
 · cases h
theorem Sim.roLoc (h:Sim C D B T S M n st a w) (l:Loc) {e:TypeId} {xs:List PV} (he:Fb st l=.osl e xs) :
 Sim C D B T S M n (FW st l (.sl xs)) a w/\(∀ l' e' xs' v,LocAt (FW st l (.sl xs)) M a w l' (.osl e' xs') v->LocAt st M a w l' (.osl e' xs') v/\l'≠l):=by
 cases l with
 | tmp t=>
  refine ⟨h.roT t he,fun l' e' xs' v hl=>?_⟩;cases l' with
  | tmp t'=>
   obtain ⟨h1,h2⟩:=hl;simp only [FW] at h1;rw [Dc] at h1;by_cases ht:t'=t
   · rw [if_pos ht] at h1;cases h1
   · rw [if_neg ht] at h1;exact ⟨⟨h1,h2⟩,by simpa using ht⟩
  | box id off=>exact ⟨hl,by simp⟩
 | box id off=>
  simp only [Fb] at he;split at he
  · rename_i cs JI
    have Bz:=HD JI;obtain ⟨bt,Hn⟩:=VR JI
    have Xj:off < cs.length:=by
     rcases Aa5 off cs.length with hh | hh
     · exact hh
     · rw [Aa2,Aa3 hh] at he;cases he
    have Mr:FW st (.box id off) (.sl xs)={ st with bx:=st.bx.set id (.cells bt (cs.set off (.sl xs))) }:=by simp [FW,QM,Hn]
    have Er:cs[off]=.osl e xs:=by simpa [Aa2,Aa0 Xj] using he
    have loc:∀ l' e' xs' v,LocAt (FW st (.box id off) (.sl xs)) M a w l' (.osl e' xs') v->LocAt st M a w l' (.osl e' xs') v/\l'≠.box id off:=by
     intro l' e' xs' v hl;rw [Mr] at hl;cases l' with
     | tmp t=>exact ⟨hl,by simp⟩
     | box id' off'=>
      obtain ⟨cs',b,h1,h2,h3,h4⟩:=hl;simp only at h1;rw [VQ Bz] at h1;by_cases hid:id'=id
      · subst hid
        rw [if_pos rfl] at h1;injection h1 with h1
        subst h1;by_cases ho:off'=off
        · subst ho;rw [Aa7 Xj] at h2;injection h2 with h2;cases h2
        · rw [Aa8 (Ne.symm ho)] at h2
          exact ⟨⟨cs,b,JI,h2,h3,h4⟩,by simpa using ho⟩
      · rw [if_neg hid] at h1
        exact ⟨⟨cs',b,h1,h2,h3,h4⟩,by simp [hid]⟩
    refine ⟨?_,loc⟩;refine ⟨h.holds,h.glob,h.gw,h.size,h.dfr,by rw [Mr];exact h.env,by rw [Mr];simpa using h.mlen,fun id' bx hb=>?_,h.nodup,h.mS,h.mT,h.hB,fun l' e' xs' v hl=>h.own l' e' xs' v (loc _ _ _ _ hl).1,fun l1 l2 e1 e2 x1 x2 v1 v2 g bQ HP=>h.apart l1 l2 e1 e2 x1 x2 v1 v2 g (loc _ _ _ _ bQ).1 (loc _ _ _ _ HP).1⟩;rw [Mr] at hb;simp only at hb;by_cases hid:id'=id
    · subst hid
      rw [Aa7 Bz] at hb;injection hb with hb
      subst hb;obtain ⟨b,h1,h2⟩:=h.boxes id' _ Hn;refine ⟨b,h1,?_⟩;cases h2 with
      | cells _ cs b c hh l h1 hr=>
       refine .cells _ _ b c hh (by simpa using l) h1 (fun i hi Dp=>?_);rw [List.getElem_set];split
       · rename_i mm
         subst mm;have:=hr off Xj Dp;rw [Er] at this;cases this with | osl e xs v h=>exact h
       · exact hr i (by simpa using hi) Dp
    · rw [Aa8 (Ne.symm hid)] at hb
      exact h.boxes id' bx hb
  · cases he
theorem MC (h:Sim C D B T S M n st a w) {al:List (Nat×Loc)} (Gs:GJ M a w al) {e:TypeId} {x:Operand} {l:Option Loc} {xs:List PV} (he:CZ C st al e x=some (l,xs)) :
 (l=none/\xs=[]/\a.eval x=.slice none 0 0)\/∃ l',l=some l'/\Fb st l'=.osl e xs/\LocAt st M a w l' (.osl e xs) (a.eval x):=by
 unfold CZ at he;have hx:=h.raw x;split at he
 · rename_i hr
   injection he with he
   injection he with h1 h2
   subst h1;subst h2;rw [hr] at hx;exact .inl ⟨rfl,rfl,hx.nils_inv⟩
 · rename_i e' xs' hr
   split at he
   · rename_i xQ
     subst xQ;split at he
     · rename_i t
       injection he with he
       injection he with h1 h2
       subst h1;subst h2;exact .inr ⟨.tmp t,rfl,hr,hr,rfl⟩
     · cases he
   · cases he
 · split at he
   · rename_i t
     split at he
     · rename_i d l' hf
       split at he
       · rename_i e' xs' hl
         split at he
         · rename_i xQ
           subst xQ;injection he with he
           injection he with h1 h2
           subst h1;subst h2;have IP:=List.mem_of_find?_eq_some hf;have hd:=List.find?_some hf;simp only [beq_iff_eq] at hd;have hc:=Gs _ IP;simp only [hd] at hc;refine .inr ⟨l',rfl,hl,?_⟩;cases l' with
           | tmp t'=>exact ⟨hl,hc.symm⟩
           | box id off=>
            obtain ⟨b,h1,h2⟩:=hc;simp only [Fb] at hl;split at hl
            · rename_i cs JI
              have Xj:off < cs.length:=by
               rcases Aa5 off cs.length with hh | hh
               · exact hh
               · rw [Aa2,Aa3 hh] at hl;cases hl
              refine ⟨cs,b,JI,?_,h1,h2⟩;rw [Aa0 Xj];simpa [Aa2,Aa0 Xj] using hl
            · cases hl
         · cases he
       · cases he
     · cases he
   · cases he
 · cases he
theorem LocAt.rep (h:Sim C D B T S M n st a w) {l:Loc} {p:PV} {v:Value} (hl:LocAt st M a w l p v):Rep S M p v:=by
 cases l with
 | tmp t=>
  obtain ⟨h1,h2⟩:=hl;rw [<- h1,<- h2];exact h.env t
 | box id off=>
  obtain ⟨cs,b,h1,h2,h3,h4⟩:=hl;obtain ⟨b',c,e,hm,hh,IV,ho,hr⟩:=BoxAt.get h h1;rw [h3] at hm;injection hm with hm
  subst hm
  have Xj:off < cs.length:=by
   rcases Aa5 off cs.length with hh | hh
   · exact hh
   · rw [Aa3 hh] at h2;cases h2
  rw [cell_of_heap hh,Array.getElem?_eq_getElem (by omega)] at h4;rw [Aa0 Xj] at h2;injection h2 with h2
  injection h4 with h4
  rw [<- h2,<- h4];exact hr off Xj (by omega)
theorem FG.append {ps qs:List PV} {vs us:List Value} (h:FG S M ps vs.toArray) (k:FG S M qs us.toArray):FG S M (ps++qs) (vs++us).toArray:=by
 obtain ⟨h1,h2,h3⟩:=h;obtain ⟨k1,k2,k3⟩:=k;simp only [List.size_toArray] at h1 k1;have hL:Cd S M ps vs:=⟨h1.symm,fun i a b=>by have:=h3 i a (by simpa using b);rw [Aa1] at this;exact this⟩;have kL:Cd S M qs us:=⟨k1.symm,fun i a b=>by have:=k3 i a (by simpa using b);rw [Aa1] at this;exact this⟩;have hk:=hL.append kL;refine ⟨by simp [h1,k1],fun i hi=>?_,fun i hi Dp=>by simpa using hk.2 i hi (by simpa using Dp)⟩;simp only [Aa1];by_cases Bz:i < vs.length
 · rw [List.getElem_append_left Bz];have:=h2 i (by simpa using Bz);rw [Aa1] at this;exact this
 · rw [List.getElem_append_right (by omega)];have:=k2 (i - vs.length) (by simp at hi |-;omega);rw [Aa1] at this;exact this
theorem FG.mono {S':AI} {ps:List PV} {c:Array Value} (hS:S.le S') (h:FG S M ps c):FG S' M ps c:=⟨h.1,h.2.1,fun i a b=>(h.2.2 i a b).mono hS (fun _ _ x=>x)⟩
theorem VS {e:TypeId} {i:TypeInfo} {t:TypeId} {x:PV} {vx:Value} {ys:List PV} (hn:J' C e i.size t x=some ys) (hx:Rep S M x vx)
 (hS:∀ b o v,S b o=some v->w.cell? ⟨b,o,none⟩=some v) (hy:∀ y ∈ ys,y.cells.length=i.size) :
 ∃ news,Src C.P i.size t vx ys.length news w/\FG S M (flat ys) news.toArray:=by
 have Zj:=CV hy;unfold J' at hn;split at hn
 · rename_i el x' ht
   obtain ⟨ad,cap,rfl,J5,hc⟩:=hx.elems_inv hn;rcases hc with rfl | ⟨b,o,rfl,hz,f,h1,h2,h3⟩
   · refine ⟨[],?_,by simp [flat,FG]⟩
     cases ad with
     | none=>exact Src.ofNil w ht cap
     | some ad=>exact Aac w ht ad 0 cap [] (by simp) (fun j u hu=>by simp at hu) (fun u hu=>by simp at hu)
   · refine ⟨(List.range (flat ys).length).map f,Aac w ht _ _ cap _ (by simp [Zj]) (fun j u hu=>?_) (fun u hu=>?_),?_⟩
     · rw [List.getElem?_map] at hu
       obtain ⟨k,hk,rfl⟩:=Option.map_eq_some_iff.1 hu
       have hj:j < (flat ys).length:=by
        rcases Aa5 j (flat ys).length with hh | hh
        · exact hh
        · rw [Aa3 (by simp;exact hh)] at hk;cases hk
       rw [List.getElem?_range hj] at hk;injection hk with hk
       subst hk;rw [DU];exact hS _ _ _ (h1 j hj)
     · obtain ⟨k,hk,rfl⟩:=List.mem_map.1 hu
       exact h2 k (by simpa using hk)
     · refine ⟨by simp,fun j hj=>?_,fun j hj gT=>?_⟩
       · simp at hj |-;exact h2 j hj
       · simp;exact h3 j hj
 · rename_i s ht
   split at hn
   · rename_i he
     split at hn
     · rename_i ZF
       injection hn with hn
       subst hn;obtain rfl:=hx.str_inv;have:=Src.ofString (P:=C.P) w ht (⟨s.toArray⟩:ByteArray);rw [ZF];have IV:(⟨s.toArray⟩:ByteArray).size=s.length:=by simp [ByteArray.size]
       refine ⟨byteCells ⟨s.toArray⟩,by rw [List.length_map,<- IV];exact this,?_⟩
       have hflat:flat (s.map fun b=>PV.int .u8 b.toNat)=s.map fun b=>PV.int .u8 b.toNat:=by
        simp [flat,PV.cells,List.flatMap_map];rw [List.map_eq_flatMap]
       rw [hflat];refine ⟨by simp [byteCells],fun j hj=>?_,fun j hj gT=>?_⟩
       · simp [byteCells] at hj |-;rfl
       · simp [byteCells];exact .int _ _
     · cases hn
   · cases hn
 · cases hn
theorem step_append (h:Sim C D B T S M n st a w) {o:Oper} (hd:∀ k,o.dst=some k->k < n) {al:List (Nat×Loc)} (Gs:GJ M a w al) {args:Array Operand} {argTypes:Array TypeId}
 (ho:o.op=.call { callee:=.builtin .append,args,argTypes }) {r:OpR} (hr:K3 C st al args argTypes o.dst=some r):Fj C D B T S M n a w o r:=by
 unfold K3 at hr;split at hr
 · rename_i s x t0 t1 ef htys
   unfold DT at hr;split at hr
   · rename_i e ht0
     split at hr
     · rename_i i hi
       split at hr
       · rename_i l xs ys Ho Dz
         split at hr
         · cases hr
         · rename_i GH
           simp only [not_or,Nat.not_lt] at GH;obtain ⟨xM,hz,ra,xP,D1,vg⟩:=GH
           have hy:∀ y ∈ ys,y.cells.length=i.size:=by
            intro y hy';have:(ys.all fun y=>y.cells.length == i.size)=true:=by simpa using D1
            rw [List.all_eq_true] at this;simpa using this y hy'
           injection hr with hr
           subst hr
           obtain ⟨zv,mM⟩:∃ zv,i.zero=some zv:=by
            cases hz':i.zero with
            | none=>simp [hz'] at hz
            | some zv=>exact ⟨zv,rfl⟩
           have hzs:zv.cells.size=i.size:=by simpa [mM] using vg
           obtain ⟨news,hsrc,hnews⟩:=VS (w:=w) Dz (h.opd x) h.holds hy
           -- the slice that is appended to
           have own:∃ vals,w.ownsRow 0 e i.size (a.eval s) xs.length vals/\(∀ x ∈ xs,x.cells.length=i.size)/\FG S M (flat xs) vals.toArray /\
            (∀ g,(a.eval s).ownBlock=some g->(g ∉ M/\∀ j,xs.length * i.size<=j->S g j=none)/\(B<=g\/T g)):=by
            rcases MC h Gs Ho with ⟨_,rfl,hv⟩ | ⟨l',_,_,hl⟩
            · rw [hv]
              exact ⟨[],World.ownsRow_nil w 0 e i.size,by simp,by simp [flat,FG],fun g hg=>by simp [Aa9] at hg⟩
            · obtain ⟨⟨i',vals,Dp,GN,hx,hg⟩,vh⟩:=h.own l' e xs _ hl
              rw [hi] at Dp;injection Dp with Dp
              subst Dp;refine ⟨vals,GN,hx,?_,fun g um=>⟨hg g um,vh g um⟩⟩;have Zj:=CV hx;have DL:=hl.rep h;generalize hv:a.eval s=v at *;cases DL with
              | osl e xs v DL=>
               have q':=GN.1;by_cases bR:xs=[]
               · subst bR
                 have:vals=[]:=Aa4 (by simpa using q');subst this;simp [flat,FG]
               · obtain ⟨ad,cap,ve,J5,hc⟩:=DL.elems_inv (xs:=xs) rfl
                 rcases hc with hc | ⟨b,o,rfl,hz,f,h1,h2,h3⟩
                 · exact absurd hc bR
                 · rcases GN.2 with ⟨e1,e2⟩ | ⟨g,cap',cur,e1,_⟩
                   · exact absurd (Aa4 e2) bR
                   · have CU:=GN.cells (g:=g) (by rw [e1] <;> rfl)
                     rw [e1] at ve;injection ve with a1 a2 a3
                     injection a1 with a1
                     injection a1 with b1 b2 b3
                     subst b1;subst b2
                     have hf:∀ j (hj:j < (flat xs).length),vals[j]'(by omega)=f j:=by
                      intro j hj;have c1:=h.holds _ _ _ (h1 j hj);have c2:=CU j (vals[j]'(by omega)) (Aa0 (by omega));rw [DU] at c2;rw [c1] at c2;injection c2 with c2
                      exact c2.symm
                     refine ⟨by simp;omega,fun j hj=>?_,fun j hj gT=>?_⟩
                     · simp at hj
                       simp only [Aa1];rw [hf j (by omega)];exact h2 j (by omega)
                     · simp only [Aa1]
                       rw [hf j hj];exact h3 j hj
           obtain ⟨vals,GN,ui,hvals,vj⟩:=own;have J5:xs.length+ys.length<=maxLen:=by unfold Gc at xP;unfold maxLen;omega
           have hbyt:(xs.length+ys.length) * i.bytes<=140737488355328:=by unfold Gc at ra;omega
           obtain ⟨v',w',BW,eg,os,tape,output,size,hwhere⟩:=QY (P:=C.P) w t0 t1 o.type e i zv ht0 hi mM hzs (a.eval s) xs.length vals GN (a.eval x) ys.length news hsrc J5 hbyt
           -- the state once the old place has let go
           obtain ⟨st1,hst1,VF,hloc1⟩:∃ st1,st1=Mx st l xs/\Sim C D B T S M n st1 a w /\
            (∀ l' e' xs' u k,LocAt st1 M a w l' (.osl e' xs') u->u.ownBlock=some k->(a.eval s).ownBlock≠some k):=by
            rcases MC h Gs Ho with ⟨rfl,_,hv⟩ | ⟨l',rfl,yJ,hl⟩
            · exact ⟨st,rfl,h,fun l' e' xs' u k _ _=>by rw [hv];simp [Aa9]⟩
            · obtain ⟨h1,h2⟩:=h.roLoc l' yJ
              refine ⟨_,rfl,h1,fun l2 e' xs' u k HP hu hk=>?_⟩;obtain ⟨h3,h4⟩:=h2 l2 e' xs' u HP;exact h4 (h.apart l2 l' _ _ _ _ _ _ k h3 hl hu hk)
           rw [<- hst1]
           -- the store
           have hall2:(vals++news).length=(xs.length+ys.length) * i.size:=eg.1
           let S':AI:=fun b o=>if v'.ownBlock=some b then (vals++news)[o]? else S b o
           have Ql:∀ g,v'.ownBlock=some g->(a.eval s).ownBlock=some g\/g=w.heap.size:=by
            intro g hg;rcases hwhere with ⟨g',e1,e2,_⟩ | ⟨e1,_⟩
            · rw [hg] at e2;injection e2 with e2;subst e2;exact .inl e1
            · rcases e1 with e1 | e1
              · rw [hg] at e1;cases e1
              · rw [hg] at e1;injection e1 with e1;exact .inr e1
           have Xk:∀ k,k < w.heap.size->v'.ownBlock≠some k->w'.heap[k]?=w.heap[k]?:=by
            intro k hk Dz;rcases hwhere with ⟨g',e1,e2,e3⟩ | ⟨_,e3⟩
            · exact e3 k (fun e=>Dz (by rw [e2,e]))
            · exact e3 k hk
           have hle:S.le S':=by
            intro b j u hu;show (if v'.ownBlock=some b then (vals++news)[j]? else S b j)=some u;split
            · rename_i hb
              rcases Ql b hb with e1 | e1
              · have hj:j < xs.length * i.size:=by
                 rcases Aa5 j (xs.length * i.size) with hh | hh
                 · exact hh
                 · rw [(vj b e1).1.2 j hh] at hu;cases hu
                have q':=GN.1;have c1:=h.holds _ _ _ hu;have c2:=GN.cells (g:=b) e1 j (vals[j]'(by omega)) (Aa0 (by omega));rw [DU] at c2;simp only [Aab] at c2;rw [c1] at c2;rw [List.getElem?_append_left (by omega),Aa0 (by omega)];exact c2.symm
              · rw [O2 h.holds b (by omega) j] at hu;cases hu
            · exact hu
           have hholds:∀ b o v,S' b o=some v->w'.cell? ⟨b,o,none⟩=some v:=by
            intro b j u hu;have hF:(if v'.ownBlock=some b then (vals++news)[j]? else S b j)=some u:=hu;split at hF
            · rename_i hb
              have:=eg.cells (g:=b) hb j u hF;rw [DU] at this;simpa using this
            · rename_i hb
              have hblt:=Ik (h.holds b j u hF);rw [World.cell?_of_block (a:=⟨b,j,none⟩) (Xk b hblt hb)];exact h.holds b j u hF
           have vl:∀ k,v'.ownBlock=some k->k ∉ M:=by
            intro k hk hm;rcases Ql k hk with e1 | e1
            · exact (vj k e1).1.1 hm
            · have:=h.mlt hm;omega
           have GU:∀ l e xs v k,LocAt st1 M a w l (.osl e xs) v->v.ownBlock=some k->v'.ownBlock≠some k:=by
            intro l2 e2 xs2 u k HP hu hk;rcases Ql k hk with e1 | e1
            · exact hloc1 l2 e2 xs2 u k HP hu e1
            · have:=(VF.own l2 e2 xs2 u HP).1.lt hu;omega
           have vh:∀ k,v'.ownBlock=some k->B<=k\/T k:=by
            intro k hk;rcases Ql k hk with e1 | e1
            · exact (vj k e1).2
            · have:=h.hB;exact .inl (by omega)
           obtain ⟨Zo,Xf⟩:=VF.touch v'.ownBlock vl GU vh os tape output size Xk hle (fun k _ Dz o=>by
            show (if v'.ownBlock=some k then (vals++news)[o]? else S k o)=S k o;rw [if_neg Dz]) hholds
           have Zj:flat (xs++ys)=flat xs++flat ys:=HC xs ys;have xO:FG S' M (flat (xs++ys)) (vals++news).toArray:=by rw [Zj];exact (hvals.append hnews).mono hle
           have hH:∀ x ∈ xs++ys,x.cells.length=i.size:=by
            intro x hx;rcases List.mem_append.1 hx with hx | hx
            · exact ui x hx
            · exact hy x hx
           have hfll:(flat (xs++ys)).length=(vals++news).length:=by rw [CV hH,hall2,Aa6]
           have DL:Rep S' M (.osl e (xs++ys)) v':=by
            refine .osl _ _ _ ?_;rcases eg.2 with ⟨rfl,e2⟩ | ⟨g,cap,cur,rfl,_,_,mn,_⟩
            · have:xs++ys=[]:=Aa4 (by rw [Aa6];exact e2)
              rw [this];exact .slE none 0
            · have hlen:xs.length+ys.length=(xs++ys).length:=by simp
              rw [hlen];by_cases bR:xs++ys=[]
              · rw [bR];exact .slE _ _
              · refine .sl _ g 0 cap (fun j=>(vals++news).getD j undef) (by rw [<- hlen];exact mn) ⟨_,hH⟩ (fun j hj=>?_) (fun j hj=>?_) (fun j hj=>?_)
                · show (if (Value.slice (some ⟨g,0,none⟩) (xs++ys).length cap).ownBlock=some g then (vals++news)[0+j]? else S g (0+j))=_
                  rw [if_pos (by rfl),Aab,Aa2,Aa0 (by omega)];rfl
                · have:=xO.2.1 j (by simp;simp at hfll;omega)
                  simp only [Aa1] at this;rw [Aa2,Aa0 (by omega)];exact this
                · have:=xO.2.2 j hj (by simp;simp at hfll;omega)
                  simp only [Aa1] at this;rw [Aa2,Aa0 (by omega)];exact this
           have hown':OwnAt C.P S' M w' e (xs++ys) v':=⟨i,vals++news,hi,by rw [Aa6];exact eg,hH,fun g hg=>⟨vl g hg,fun j hj=>by
            show (if v'.ownBlock=some g then (vals++news)[j]? else S g j)=none;rw [if_pos hg,Aa3 (by rw [hall2];rw [Aa6] at hj;exact hj)]⟩⟩
           intro K Q hK
           have hv:(execOp a.eval o).run C.P w=.ok (.value v') w':=by
            rw [execOp,ho];have e1:args=#[s,x]:=by have:=congrArg Aaa ef;simpa using this
            have e2:argTypes=#[t0,t1]:=by have:=congrArg Aaa htys;simpa using this
            simp only [e1,e2,resolve,invoke,builtin,Sem.run_bind,Sem.run_pure,Result.andThen_ok,List.map_toArray,List.map_cons,List.map_nil,BW]
           refine Ce hv (hK S' M _ w' (Zo.putG o.dst hd DL (fun e' xs' heq=>?_)) Xf (List.prefix_refl _) ?_)
           · injection heq with e1 e2
             subst e1;subst e2;refine ⟨hown',vh,fun l2 e2 xs2 u g _ HP hu hk=>?_⟩;exact GU l2 e2 xs2 u g (LocAt.back (fun b hb=>Xk b (h.mlt hb) (fun e=>vl b e hb)) HP) hu hk
           · exact Gs.put h.size hd _ (fun _ _ x=>x) (fun b hb=>Xk b (h.mlt hb) (fun e=>vl b e hb))
       · cases hr
     · cases hr
   · cases hr
 · cases hr
end
end Go.HH
