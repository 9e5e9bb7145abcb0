/-
  What the law needs, packed: Step7.
-/
import Derived.Test.YthjcaihemgllaaaGreatDoorK15
open List renaming getElem?_eq_getElem->Aau,getElem_toArray->Aav,getD_eq_getElem?_getD->Aaw,getElem?_eq_none->Aax,eq_nil_of_length_eq_zero->Aay,length_append->Ab0,getElem?_set_self->Ab1,getElem?_set_ne->Ab2,toArray->Ab4
open Nat renaming lt_or_ge->Aaz,zero_add->Ab5
open Go.Value renaming ownBlock->Ab3
open Go.Src renaming ofSlice->Ab6
namespace Go.HH
open Go Go.RowKit
section
variable {C:Cfg} {D:List Deferred} {B:Nat} {T:Nat->Prop} {S:AJ} {M:List Nat} {n:Nat} {st:St} {a:Act} {w:World}
theorem V3 {bx:List PBox} {id j:Nat} {t:TypeId} {cs:List PV} (h:id < bx.length):A0 (bx.set id (.cells t cs)) j=if j=id then some cs else A0 bx j:=by
 unfold A0;by_cases hj:j=id
 · subst hj;rw [if_pos rfl,Ab1 h]
 · rw [if_neg hj,Ab2 (Ne.symm hj)]
theorem HI {bx:List PBox} {id:Nat} {cs:List PV} (h:A0 bx id=some cs):id < bx.length:=by
 rcases Aaz id bx.length with h' | h'
 · exact h'
 · unfold A0 at h;rw [Aax h'] at h;cases h
theorem V4 {bx:List PBox} {id:Nat} {cs:List PV} (h:A0 bx id=some cs):∃ t,bx[id]?=some (.cells t cs):=by
 unfold A0 at h;split at h
 · rename_i t c hc;injection h with h;subst h;exact ⟨t,hc⟩
 · cases h
theorem Sim.roLoc (h:Sim C D B T S M n st a w) (l:Loc) {e:TypeId} {xs:List PV} (he:E9 st l=.osl e xs) :
 Sim C D B T S M n (FX st l (.sl xs)) a w/\(∀ l' e' xs' v,LocAt (FX st l (.sl xs)) M a w l' (.osl e' xs') v->LocAt st M a w l' (.osl e' xs') v/\l'≠l):=by
 cases l with
 | tmp t=>
  refine ⟨h.roT t he,fun l' e' xs' v hl=>?_⟩;cases l' with
  | tmp t'=>
   obtain ⟨h1,h2⟩:=hl;simp only [FX] at h1;rw [Dc] at h1;by_cases ht:t'=t
   · rw [if_pos ht] at h1;cases h1
   · rw [if_neg ht] at h1;exact ⟨⟨h1,h2⟩,by simpa using ht⟩
  | box id off=>exact ⟨hl,by simp⟩
 | box id off=>
  simp only [E9] at he;split at he
  · rename_i cs JQ
    have BC:=HI JQ;obtain ⟨bt,Hs⟩:=V4 JQ
    have XA:off < cs.length:=by
     rcases Aaz off cs.length with hh | hh
     · exact hh
     · rw [Aaw,Aax hh] at he;cases he
    have Mv:FX st (.box id off) (.sl xs)={ st with bx:=st.bx.set id (.cells bt (cs.set off (.sl xs))) }:=by simp [FX,QY,Hs]
    have Et:cs[off]=.osl e xs:=by simpa [Aaw,Aau XA] using he
    have loc:∀ l' e' xs' v,LocAt (FX st (.box id off) (.sl xs)) M a w l' (.osl e' xs') v->LocAt st M a w l' (.osl e' xs') v/\l'≠.box id off:=by
     intro l' e' xs' v hl;rw [Mv] at hl;cases l' with
     | tmp t=>exact ⟨hl,by simp⟩
     | box id' off'=>
      obtain ⟨cs',b,h1,h2,h3,h4⟩:=hl;simp only at h1;rw [V3 BC] at h1;by_cases hid:id'=id
      · subst hid
        rw [if_pos rfl] at h1;injection h1 with h1
        subst h1;by_cases ho:off'=off
        · subst ho;rw [Ab1 XA] at h2;injection h2 with h2;cases h2
        · rw [Ab2 (Ne.symm ho)] at h2
          exact ⟨⟨cs,b,JQ,h2,h3,h4⟩,by simpa using ho⟩
      · rw [if_neg hid] at h1
        exact ⟨⟨cs',b,h1,h2,h3,h4⟩,by simp [hid]⟩
    refine ⟨?_,loc⟩;refine ⟨h.holds,h.glob,h.gw,h.size,h.dfr,by rw [Mv];exact h.env,by rw [Mv];simpa using h.mlen,fun id' bx hb=>?_,h.nodup,h.mS,h.mT,h.hB,fun l' e' xs' v hl=>h.own l' e' xs' v (loc _ _ _ _ hl).1,fun l1 l2 e1 e2 x1 x2 v1 v2 g cy HT=>h.apart l1 l2 e1 e2 x1 x2 v1 v2 g (loc _ _ _ _ cy).1 (loc _ _ _ _ HT).1⟩;rw [Mv] at hb;simp only at hb;by_cases hid:id'=id
    · subst hid
      rw [Ab1 BC] at hb;injection hb with hb
      subst hb;obtain ⟨b,h1,h2⟩:=h.boxes id' _ Hs;refine ⟨b,h1,?_⟩;cases h2 with
      | cells _ cs b c hh l h1 hr=>
       refine .cells _ _ b c hh (by simpa using l) h1 (fun i hi Dm=>?_);rw [List.getElem_set];split
       · rename_i mU
         subst mU;have:=hr off XA Dm;rw [Et] at this;cases this with | osl e xs v h=>exact h
       · exact hr i (by simpa using hi) Dm
    · rw [Ab2 (Ne.symm hid)] at hb
      exact h.boxes id' bx hb
  · cases he
theorem MG (h:Sim C D B T S M n st a w) {al:List (Nat×Loc)} (FF:GK M a w al) {e:TypeId} {x:Operand} {l:Option Loc} {xs:List PV} (he:CY C st al e x=some (l,xs)) :
 (l=none/\xs=[]/\a.eval x=.slice none 0 0)\/∃ l',l=some l'/\E9 st l'=.osl e xs/\LocAt st M a w l' (.osl e xs) (a.eval x):=by
 unfold CY at he;have hx:=h.raw x;split at he
 · rename_i hr
   injection he with he
   injection he with h1 h2
   subst h1;subst h2;rw [hr] at hx;exact .inl ⟨rfl,rfl,hx.nils_inv⟩
 · rename_i e' xs' hr
   split at he
   · rename_i yH
     subst yH;split at he
     · rename_i t
       injection he with he
       injection he with h1 h2
       subst h1;subst h2;exact .inr ⟨.tmp t,rfl,hr,hr,rfl⟩
     · cases he
   · cases he
 · split at he
   · rename_i t
     split at he
     · rename_i d l' hf
       split at he
       · rename_i e' xs' hl
         split at he
         · rename_i yH
           subst yH;injection he with he
           injection he with h1 h2
           subst h1;subst h2;have I2:=List.mem_of_find?_eq_some hf;have hd:=List.find?_some hf;simp only [beq_iff_eq] at hd;have hc:=FF _ I2;simp only [hd] at hc;refine .inr ⟨l',rfl,hl,?_⟩;cases l' with
           | tmp t'=>exact ⟨hl,hc.symm⟩
           | box id off=>
            obtain ⟨b,h1,h2⟩:=hc;simp only [E9] at hl;split at hl
            · rename_i cs JQ
              have XA:off < cs.length:=by
               rcases Aaz off cs.length with hh | hh
               · exact hh
               · rw [Aaw,Aax hh] at hl;cases hl
              refine ⟨cs,b,JQ,?_,h1,h2⟩;rw [Aau XA];simpa [Aaw,Aau XA] using hl
            · cases hl
         · cases he
       · cases he
     · cases he
   · cases he
 · cases he
theorem LocAt.rep (h:Sim C D B T S M n st a w) {l:Loc} {p:PV} {v:Value} (hl:LocAt st M a w l p v):Rep S M p v:=by
 cases l with
 | tmp t=>
  obtain ⟨h1,h2⟩:=hl;rw [<- h1,<- h2];exact h.env t
 | box id off=>
  obtain ⟨cs,b,h1,h2,h3,h4⟩:=hl;obtain ⟨b',c,e,hm,hh,I4,ho,hr⟩:=BoxAt.get h h1;rw [h3] at hm;injection hm with hm
  subst hm
  have XA:off < cs.length:=by
   rcases Aaz off cs.length with hh | hh
   · exact hh
   · rw [Aax hh] at h2;cases h2
  rw [cell_of_heap hh,Array.getElem?_eq_getElem (by omega)] at h4;rw [Aau XA] at h2;injection h2 with h2
  injection h4 with h4
  rw [<- h2,<- h4];exact hr off XA (by omega)
theorem FG.append {ps qs:List PV} {vs us:List Value} (h:FG S M ps vs.toArray) (k:FG S M qs us.toArray):FG S M (ps++qs) (vs++us).toArray:=by
 obtain ⟨h1,h2,h3⟩:=h;obtain ⟨k1,k2,k3⟩:=k;simp only [List.size_toArray] at h1 k1;have hL:Ce S M ps vs:=⟨h1.symm,fun i a b=>by have:=h3 i a (by simpa using b);rw [Aav] at this;exact this⟩;have kL:Ce S M qs us:=⟨k1.symm,fun i a b=>by have:=k3 i a (by simpa using b);rw [Aav] at this;exact this⟩;have hk:=hL.append kL;refine ⟨by simp [h1,k1],fun i hi=>?_,fun i hi Dm=>by simpa using hk.2 i hi (by simpa using Dm)⟩;simp only [Aav];by_cases BC:i < vs.length
 · rw [List.getElem_append_left BC];have:=h2 i (by simpa using BC);rw [Aav] at this;exact this
 · rw [List.getElem_append_right (by omega)];have:=k2 (i - vs.length) (by simp at hi |-;omega);rw [Aav] at this;exact this
theorem FG.mono {S':AJ} {ps:List PV} {c:Array Value} (hS:S.le S') (h:FG S M ps c):FG S' M ps c:=⟨h.1,h.2.1,fun i a b=>(h.2.2 i a b).mono hS (fun _ _ x=>x)⟩
theorem V5 {e:TypeId} {i:TypeInfo} {t:TypeId} {x:PV} {vx:Value} {ys:List PV} (hn:Kh C e i.size t x=some ys) (hx:Rep S M x vx)
 (hS:∀ b o v,S b o=some v->w.cell? ⟨b,o,none⟩=some v) (hy:∀ y ∈ ys,y.cells.length=i.size) :
 ∃ news,Src C.P i.size t vx ys.length news w/\FG S M (flat ys) news.toArray:=by
 have ZA:=CV hy;unfold Kh at hn;split at hn
 · rename_i el x' ht
   obtain ⟨ad,cap,rfl,Kc,hc⟩:=hx.elems_inv hn;rcases hc with rfl | ⟨b,o,rfl,hz,f,h1,h2,h3⟩
   · refine ⟨[],?_,by simp [flat,FG]⟩
     cases ad with
     | none=>exact Src.ofNil w ht cap
     | some ad=>exact Ab6 w ht ad 0 cap [] (by simp) (fun j u hu=>by simp at hu) (fun u hu=>by simp at hu)
   · refine ⟨(List.range (flat ys).length).map f,Ab6 w ht _ _ cap _ (by simp [ZA]) (fun j u hu=>?_) (fun u hu=>?_),?_⟩
     · rw [List.getElem?_map] at hu
       obtain ⟨k,hk,rfl⟩:=Option.map_eq_some_iff.1 hu
       have hj:j < (flat ys).length:=by
        rcases Aaz j (flat ys).length with hh | hh
        · exact hh
        · rw [Aax (by simp;exact hh)] at hk;cases hk
       rw [List.getElem?_range hj] at hk;injection hk with hk
       subst hk;rw [DU];exact hS _ _ _ (h1 j hj)
     · obtain ⟨k,hk,rfl⟩:=List.mem_map.1 hu
       exact h2 k (by simpa using hk)
     · refine ⟨by simp,fun j hj=>?_,fun j hj ir=>?_⟩
       · simp at hj |-;exact h2 j hj
       · simp;exact h3 j hj
 · rename_i s ht
   split at hn
   · rename_i he
     split at hn
     · rename_i Z1
       injection hn with hn
       subst hn;obtain rfl:=hx.str_inv;have:=Src.ofString (P:=C.P) w ht (⟨s.toArray⟩:ByteArray);rw [Z1];have I4:(⟨s.toArray⟩:ByteArray).size=s.length:=by simp [ByteArray.size]
       refine ⟨byteCells ⟨s.toArray⟩,by rw [List.length_map,<- I4];exact this,?_⟩
       have hflat:flat (s.map fun b=>PV.int .u8 b.toNat)=s.map fun b=>PV.int .u8 b.toNat:=by
        simp [flat,PV.cells,List.flatMap_map];rw [List.map_eq_flatMap]
       rw [hflat];refine ⟨by simp [byteCells],fun j hj=>?_,fun j hj ir=>?_⟩
       · simp [byteCells] at hj |-;rfl
       · simp [byteCells];exact .int _ _
     · cases hn
   · cases hn
 · cases hn
theorem step_append (h:Sim C D B T S M n st a w) {o:Oper} (hd:∀ k,o.dst=some k->k < n) {al:List (Nat×Loc)} (FF:GK M a w al) {args:Array Operand} {argTypes:Array TypeId}
 (ho:o.op=.call { callee:=.builtin .append,args,argTypes }) {r:OpR} (hr:La C st al args argTypes o.dst=some r):Fg C D B T S M n a w o r:=by
 unfold La at hr;split at hr
 · rename_i s x t0 t1 eL htys
   unfold DT at hr;split at hr
   · rename_i e ht0
     split at hr
     · rename_i i hi
       split at hr
       · rename_i l xs ys Ht Dx
         split at hr
         · cases hr
         · rename_i GI
           simp only [not_or,Nat.not_lt] at GI;obtain ⟨yD,hz,rQ,yG,D1,vX⟩:=GI
           have hy:∀ y ∈ ys,y.cells.length=i.size:=by
            intro y hy';have:(ys.all fun y=>y.cells.length == i.size)=true:=by simpa using D1
            rw [List.all_eq_true] at this;simpa using this y hy'
           injection hr with hr
           subst hr
           obtain ⟨zv,nv⟩:∃ zv,i.zero=some zv:=by
            cases hz':i.zero with
            | none=>simp [hz'] at hz
            | some zv=>exact ⟨zv,rfl⟩
           have hzs:zv.cells.size=i.size:=by simpa [nv] using vX
           obtain ⟨news,hsrc,hnews⟩:=V5 (w:=w) Dx (h.opd x) h.holds hy
           -- the slice that is appended to
           have own:∃ vals,w.ownsRow 0 e i.size (a.eval s) xs.length vals/\(∀ x ∈ xs,x.cells.length=i.size)/\FG S M (flat xs) vals.toArray /\
            (∀ g,(a.eval s).ownBlock=some g->(g ∉ M/\∀ j,xs.length * i.size<=j->S g j=none)/\(B<=g\/T g)):=by
            rcases MG h FF Ht with ⟨_,rfl,hv⟩ | ⟨l',_,_,hl⟩
            · rw [hv]
              exact ⟨[],World.ownsRow_nil w 0 e i.size,by simp,by simp [flat,FG],fun g hg=>by simp [Ab3] at hg⟩
            · obtain ⟨⟨i',vals,Dm,GU,hx,hg⟩,vY⟩:=h.own l' e xs _ hl
              rw [hi] at Dm;injection Dm with Dm
              subst Dm;refine ⟨vals,GU,hx,?_,fun g uX=>⟨hg g uX,vY g uX⟩⟩;have ZA:=CV hx;have DJ:=hl.rep h;generalize hv:a.eval s=v at *;cases DJ with
              | osl e xs v DJ=>
               have yC:=GU.1;by_cases cz:xs=[]
               · subst cz
                 have:vals=[]:=Aay (by simpa using yC);subst this;simp [flat,FG]
               · obtain ⟨ad,cap,vV,Kc,hc⟩:=DJ.elems_inv (xs:=xs) rfl
                 rcases hc with hc | ⟨b,o,rfl,hz,f,h1,h2,h3⟩
                 · exact absurd hc cz
                 · rcases GU.2 with ⟨e1,e2⟩ | ⟨g,cap',cur,e1,_⟩
                   · exact absurd (Aay e2) cz
                   · have CU:=GU.cells (g:=g) (by rw [e1] <;> rfl)
                     rw [e1] at vV;injection vV with a1 a2 a3
                     injection a1 with a1
                     injection a1 with b1 b2 b3
                     subst b1;subst b2
                     have hf:∀ j (hj:j < (flat xs).length),vals[j]'(by omega)=f j:=by
                      intro j hj;have c1:=h.holds _ _ _ (h1 j hj);have c2:=CU j (vals[j]'(by omega)) (Aau (by omega));rw [DU] at c2;rw [c1] at c2;injection c2 with c2
                      exact c2.symm
                     refine ⟨by simp;omega,fun j hj=>?_,fun j hj ir=>?_⟩
                     · simp at hj
                       simp only [Aav];rw [hf j (by omega)];exact h2 j (by omega)
                     · simp only [Aav]
                       rw [hf j hj];exact h3 j hj
           obtain ⟨vals,GU,uU,hvals,vZ⟩:=own;have Kc:xs.length+ys.length<=maxLen:=by unfold Gc at yG;unfold maxLen;omega
           have hbyt:(xs.length+ys.length) * i.bytes<=140737488355328:=by unfold Gc at rQ;omega
           obtain ⟨v',w',BV,eM,os,tape,output,size,hwhere⟩:=Q' (P:=C.P) w t0 t1 o.type e i zv ht0 hi nv hzs (a.eval s) xs.length vals GU (a.eval x) ys.length news hsrc Kc hbyt
           -- the state once the old place has let go
           obtain ⟨st1,hst1,VS,hloc1⟩:∃ st1,st1=MB st l xs/\Sim C D B T S M n st1 a w /\
            (∀ l' e' xs' u k,LocAt st1 M a w l' (.osl e' xs') u->u.ownBlock=some k->(a.eval s).ownBlock≠some k):=by
            rcases MG h FF Ht with ⟨rfl,_,hv⟩ | ⟨l',rfl,uY,hl⟩
            · exact ⟨st,rfl,h,fun l' e' xs' u k _ _=>by rw [hv];simp [Ab3]⟩
            · obtain ⟨h1,h2⟩:=h.roLoc l' uY
              refine ⟨_,rfl,h1,fun l2 e' xs' u k HT hu hk=>?_⟩;obtain ⟨h3,h4⟩:=h2 l2 e' xs' u HT;exact h4 (h.apart l2 l' _ _ _ _ _ _ k h3 hl hu hk)
           rw [<- hst1]
           -- the store
           have hall2:(vals++news).length=(xs.length+ys.length) * i.size:=eM.1
           let S':AJ:=fun b o=>if v'.ownBlock=some b then (vals++news)[o]? else S b o
           have Qx:∀ g,v'.ownBlock=some g->(a.eval s).ownBlock=some g\/g=w.heap.size:=by
            intro g hg;rcases hwhere with ⟨g',e1,e2,_⟩ | ⟨e1,_⟩
            · rw [hg] at e2;injection e2 with e2;subst e2;exact .inl e1
            · rcases e1 with e1 | e1
              · rw [hg] at e1;cases e1
              · rw [hg] at e1;injection e1 with e1;exact .inr e1
           have XB:∀ k,k < w.heap.size->v'.ownBlock≠some k->w'.heap[k]?=w.heap[k]?:=by
            intro k hk Dx;rcases hwhere with ⟨g',e1,e2,e3⟩ | ⟨_,e3⟩
            · exact e3 k (fun e=>Dx (by rw [e2,e]))
            · exact e3 k hk
           have hle:S.le S':=by
            intro b j u hu;show (if v'.ownBlock=some b then (vals++news)[j]? else S b j)=some u;split
            · rename_i hb
              rcases Qx b hb with e1 | e1
              · have hj:j < xs.length * i.size:=by
                 rcases Aaz j (xs.length * i.size) with hh | hh
                 · exact hh
                 · rw [(vZ b e1).1.2 j hh] at hu;cases hu
                have yC:=GU.1;have c1:=h.holds _ _ _ hu;have c2:=GU.cells (g:=b) e1 j (vals[j]'(by omega)) (Aau (by omega));rw [DU] at c2;simp only [Ab5] at c2;rw [c1] at c2;rw [List.getElem?_append_left (by omega),Aau (by omega)];exact c2.symm
              · rw [Pb h.holds b (by omega) j] at hu;cases hu
            · exact hu
           have hholds:∀ b o v,S' b o=some v->w'.cell? ⟨b,o,none⟩=some v:=by
            intro b j u hu;have iC:(if v'.ownBlock=some b then (vals++news)[j]? else S b j)=some u:=hu;split at iC
            · rename_i hb
              have:=eM.cells (g:=b) hb j u iC;rw [DU] at this;simpa using this
            · rename_i hb
              have hblt:=Is (h.holds b j u iC);rw [World.cell?_of_block (a:=⟨b,j,none⟩) (XB b hblt hb)];exact h.holds b j u iC
           have v7:∀ k,v'.ownBlock=some k->k ∉ M:=by
            intro k hk hm;rcases Qx k hk with e1 | e1
            · exact (vZ k e1).1.1 hm
            · have:=h.mlt hm;omega
           have G0:∀ l e xs v k,LocAt st1 M a w l (.osl e xs) v->v.ownBlock=some k->v'.ownBlock≠some k:=by
            intro l2 e2 xs2 u k HT hu hk;rcases Qx k hk with e1 | e1
            · exact hloc1 l2 e2 xs2 u k HT hu e1
            · have:=(VS.own l2 e2 xs2 u HT).1.lt hu;omega
           have vY:∀ k,v'.ownBlock=some k->B<=k\/T k:=by
            intro k hk;rcases Qx k hk with e1 | e1
            · exact (vZ k e1).2
            · have:=h.hB;exact .inl (by omega)
           obtain ⟨ZH,Xw⟩:=VS.touch v'.ownBlock v7 G0 vY os tape output size XB hle (fun k _ Dx o=>by
            show (if v'.ownBlock=some k then (vals++news)[o]? else S k o)=S k o;rw [if_neg Dx]) hholds
           have ZA:flat (xs++ys)=flat xs++flat ys:=HG xs ys;have yF:FG S' M (flat (xs++ys)) (vals++news).toArray:=by rw [ZA];exact (hvals.append hnews).mono hle
           have iD:∀ x ∈ xs++ys,x.cells.length=i.size:=by
            intro x hx;rcases List.mem_append.1 hx with hx | hx
            · exact uU x hx
            · exact hy x hx
           have hfll:(flat (xs++ys)).length=(vals++news).length:=by rw [CV iD,hall2,Ab0]
           have DJ:Rep S' M (.osl e (xs++ys)) v':=by
            refine .osl _ _ _ ?_;rcases eM.2 with ⟨rfl,e2⟩ | ⟨g,cap,cur,rfl,_,_,mV,_⟩
            · have:xs++ys=[]:=Aay (by rw [Ab0];exact e2)
              rw [this];exact .slE none 0
            · have hlen:xs.length+ys.length=(xs++ys).length:=by simp
              rw [hlen];by_cases cz:xs++ys=[]
              · rw [cz];exact .slE _ _
              · refine .sl _ g 0 cap (fun j=>(vals++news).getD j undef) (by rw [<- hlen];exact mV) ⟨_,iD⟩ (fun j hj=>?_) (fun j hj=>?_) (fun j hj=>?_)
                · show (if (Value.slice (some ⟨g,0,none⟩) (xs++ys).length cap).ownBlock=some g then (vals++news)[0+j]? else S g (0+j))=_
                  rw [if_pos (by rfl),Ab5,Aaw,Aau (by omega)];rfl
                · have:=yF.2.1 j (by simp;simp at hfll;omega)
                  simp only [Aav] at this;rw [Aaw,Aau (by omega)];exact this
                · have:=yF.2.2 j hj (by simp;simp at hfll;omega)
                  simp only [Aav] at this;rw [Aaw,Aau (by omega)];exact this
           have hown':OwnAt C.P S' M w' e (xs++ys) v':=⟨i,vals++news,hi,by rw [Ab0];exact eM,iD,fun g hg=>⟨v7 g hg,fun j hj=>by
            show (if v'.ownBlock=some g then (vals++news)[j]? else S g j)=none;rw [if_pos hg,Aax (by rw [hall2];rw [Ab0] at hj;exact hj)]⟩⟩
           intro K Q hK
           have hv:(execOp a.eval o).run C.P w=.ok (.value v') w':=by
            rw [execOp,ho];have e1:args=#[s,x]:=by have:=congrArg Ab4 eL;simpa using this
            have e2:argTypes=#[t0,t1]:=by have:=congrArg Ab4 htys;simpa using this
            simp only [e1,e2,resolve,invoke,builtin,Sem.run_bind,Sem.run_pure,Result.andThen_ok,List.map_toArray,List.map_cons,List.map_nil,BV]
           refine Cg hv (hK S' M _ w' (ZH.putG o.dst hd DJ (fun e' xs' heq=>?_)) Xw (List.prefix_refl _) ?_)
           · injection heq with e1 e2
             subst e1;subst e2;refine ⟨hown',vY,fun l2 e2 xs2 u g _ HT hu hk=>?_⟩;exact G0 l2 e2 xs2 u g (LocAt.back (fun b hb=>XB b (h.mlt hb) (fun e=>v7 b e hb)) HT) hu hk
           · exact FF.put h.size hd _ (fun _ _ x=>x) (fun b hb=>XB b (h.mlt hb) (fun e=>v7 b e hb))
       · cases hr
     · cases hr
   · cases hr
 · cases hr
end
end Go.HH
