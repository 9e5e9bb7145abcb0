/-
  What the law needs, packed: Step5.
-/
import Derived.Test.YthjcaihemgllaaaGreatDoorJ12
open List renaming replicate->Aa0,getElem?_eq_getElem->Aa1,eq_of_mem_replicate->Aa3,prefix_refl->Aaf,foldlM_nil->Aah
open Go.Result renaming andThen_ok->Aa2
open Nat renaming mod_lt->Aa4,mul_le_mul_right->Aac,one_mul->Aaj,add_mul->Aak
open Go.Sem renaming run_pure->Aa5,run_bind->Aa6
open Array renaming range->Aa7,getElem_extract->Aaa,getElem_range->Aab,getD->Aad,getElem_map->Aae
open Go.Value renaming ownBlock->Aa8
open Decidable renaming not_not->Aa9
open Bool renaming and_eq_true->Aag
open Go.Instr renaming fill->Aai
namespace Go.HH
open Go Go.RowKit
section
variable {C:Cfg} {D:List Deferred} {B:Nat} {T:Nat->Prop} {S:AI} {M:List Nat} {n:Nat} {st:St} {a:Act} {w:World}
theorem CV {xs:List PV} {sz:Nat} (h:∀ x ∈ xs,x.cells.length=sz):(flat xs).length=xs.length * sz:=by
 induction xs with
 | nil=>simp [flat]
 | cons x r ih=>
  have:=ih (fun y hy=>h y (by simp [hy]));simp only [flat,List.flatMap_cons,List.length_append,List.length_cons] at this |-;rw [h x (by simp),this,Aak,Aaj,Nat.add_comm]
theorem ix {xs:List PV} {sz:Nat} (h:∀ x ∈ xs,x.cells.length=sz) {i:Nat} (hi:i < xs.length) {v:PV} (hv:v.cells.length=sz):flat (xs.set i v)=lay (flat xs) (i * sz) v.cells:=by
 have e1:xs.set i v=xs.take i++v :: xs.drop (i+1):=by rw [List.set_eq_take_append_cons_drop,if_pos hi]
 rw [e1,HC];have e2:flat (v :: xs.drop (i+1))=v.cells++flat (xs.drop (i+1)):=by simp [flat]
 rw [e2];unfold lay
 have e3:flat (xs.take i)=(flat xs).take (i * sz):=by
  have hs:flat xs=flat (xs.take i)++flat (xs.drop i):=by rw [<- HC,List.take_append_drop]
  have hl:(flat (xs.take i)).length=i * sz:=by
   rw [CV (fun x hx=>h x (List.mem_of_mem_take hx))];rw [List.length_take,Nat.min_eq_left (by omega)]
  rw [hs,List.take_left' hl]
 have e4:flat (xs.drop (i+1))=(flat xs).drop (i * sz+v.cells.length):=by
  rw [hv,<- Fg xs (i+1) sz h (by omega),Aak,Aaj]
 rw [e3,e4,List.append_assoc]
theorem Sim.newRow (h:Sim C D B T S M n st a w) {d:Option Tmp} (hd:∀ k,d=some k->k < n) {e:TypeId} {i:TypeInfo} (hi:C.P.info? e=some i) {xs:List PV} (hx:∀ x ∈ xs,x.cells.length=i.size)
 {c:Array Value} (cap:Nat) (J5:c.size=cap * i.size) (hl:xs.length<=cap) (hm:cap<=maxLen)
 (hc:FG S M (flat xs) (c.extract 0 (xs.length * i.size))) (w0:World) (h0:w0.heap=w.heap) (h1:w0.os=w.os) (h2:w0.tape=w.tape) (h3:w0.output=w.output) :
 ∃ S',Sim C D B T S' M n (st.put d (.osl e xs)) (a.put d (.slice (some ⟨w.heap.size,0,none⟩) xs.length cap)) (w0.alloc (.cells c e))/\Grows B T S w S' (w0.alloc (.cells c e)):=by
 have hk:=Kept.alloc h c e (xs.length * i.size) w0 h0 h1 h2 h3;have Zj:=CV hx;have hle:xs.length * i.size<=cap * i.size:=Aac _ hl;refine ⟨_,(h.kept hk).putG d hd ?_ (fun e' xs' heq=>?_),hk.grows h.hB⟩
 · refine .osl e xs _ ?_
   by_cases bR:xs=[]
   · subst bR;exact .slE _ _
   · refine .sl xs _ 0 cap (fun j=>c.getD j undef) hl ⟨_,hx⟩ (fun j hj=>?_) (fun j hj=>?_) (fun j hj=>?_)
     · rw [Zj] at hj
       unfold AI.add;simp only [if_true,Nat.zero_add];rw [List.getElem?_take_of_lt hj];have Bz:j < c.size:=by omega
       simp [Aad,Bz]
     · rw [Zj] at hj
       have Bz:j < c.size:=by omega
       have:=hc.2.1 j (by simp;omega);simp only [Aaa] at this;simpa [Aad,Bz] using this
     · have gT:=hj
       rw [Zj] at gT;have Bz:j < c.size:=by omega
       have:=hc.2.2 j hj (by simp;omega);simp only [Aaa] at this;have:=this.mono hk.store (fun _ _ x=>x);simpa [Aad,Bz] using this
 · injection heq with e1 e2
   subst e1;subst e2;refine ⟨⟨i,(c.toList.take (xs.length * i.size)),hi,⟨by simp;omega,.inr ⟨w.heap.size,cap,c,rfl,Nat.zero_le _,by rw [<- h0];exact heap_alloc_new w0 _,hl,hm,J5,rfl⟩⟩,hx,fun g hg=>?_⟩,fun g hg=>?_,fun l e' xs' u g _ D4 hu hv=>?_⟩
   · simp only [Aa8,Option.some.injEq] at hg
     subst hg;refine ⟨fun hm=>by have:=h.mlt hm;omega,fun j hj=>?_⟩;unfold AI.add;simp only [if_true];rw [List.getElem?_eq_none];simp;omega
   · simp only [Aa8,Option.some.injEq] at hg
     subst hg;exact .inl h.hB
   · simp only [Aa8,Option.some.injEq] at hv
     subst hv;have HP:=LocAt.back (M:=M) (fun b hb=>hk.block b (h.mlt hb)) D4;have:=(h.own l e' xs' u HP).1.lt hu;omega
theorem VP {ag:Bool} {size:Nat} {p q:PV} (h:Gd ag size p=some q):q=p.shutV/\q.cells.length=size/\q.val=true:=by
 unfold Gd at h;split at h
 · rename_i cs hs
   split at h
   · rename_i hc
     injection h with h;subst h
     simp only [Aag,beq_iff_eq] at hc;exact ⟨hs.symm,hc.2,rfl⟩
   · cases h
 · rename_i GU
   split at h
   · rename_i hc
     injection h with h;subst h
     simp only [Aag,beq_iff_eq] at hc;obtain ⟨⟨_,h1⟩,rfl⟩:=hc;refine ⟨rfl,?_,?_⟩
     · generalize p.shutV=q at *
       cases q <;> simp_all [PV.cells,PV.one]
     · generalize p.shutV=q at *
       cases q <;> simp_all [PV.val,PV.one]
   · cases h
theorem QU {ag:Bool} {size len:Nat}:∀ (parts:List (Nat×PV)) (vparts:List (Nat×Value)) (xs ys:List PV) (vc:Array Value),
 parts.length=vparts.length->(∀ i (h:i < parts.length) (h':i < vparts.length),parts[i].1=vparts[i].1/\Rep S M parts[i].2 vparts[i].2) ->
 (∀ x ∈ xs,x.cells.length=size)->xs.length=len->FG S M (flat xs) vc ->
 parts.foldlM (fun (l:List PV) (p:Nat×PV)=>match Gd ag size p.2 with
  | some v=>if p.1 < len then some (l.set p.1 v) else none
  | none=>none) xs=some ys ->
 ∃ vr,Aai (fun i=>some (i * size,size)) vc vparts=some vr/\FG S M (flat ys) vr/\(∀ x ∈ ys,x.cells.length=size)/\ys.length=len
 | [],vparts,xs,ys,vc,hl,_,hx,hlen,hc,h=>by
  have:vparts=[]:=List.eq_nil_of_length_eq_zero hl.symm;subst this;simp only [Aah,Option.pure_def,Option.some.injEq] at h;subst h;exact ⟨vc,rfl,hc,hx,hlen⟩
 | (i,p) :: rest,vparts,xs,ys,vc,hl,hp,hx,hlen,hc,h=>by
  cases vparts with
  | nil=>simp at hl
  | cons u vparts=>
   obtain ⟨j,u⟩:=u;have h0:=hp 0 (by simp) (by simp);simp only [List.getElem_cons_zero] at h0;obtain ⟨rfl,hv⟩:=h0;simp only [List.foldlM_cons] at h;obtain ⟨z,hz,h⟩:=Option.bind_eq_some_iff.1 h;split at hz
   · rename_i v Zk
     split at hz
     · rename_i hi
       injection hz with hz
       subst hz;obtain ⟨rfl,q',ve⟩:=VP Zk;have CU:=hv.shutV.cells ve;have Zj:=CV hx;have h1:=CU.1;have h2:=hc.1
       have hle:i * size+size<=xs.length * size:=by
        rw [<- Nat.succ_mul];exact Aac _ (by omega)
       have hcu:u.cells=u.cells:=rfl;unfold Aai;simp only [];rw [if_neg (by simp;omega)];have hset:=ix hx (i:=i) (by omega) q'
       refine QU rest vparts (xs.set i p.shutV) ys _ (by simpa using hl) (fun k x y=>by
        have:=hp (k+1) (by simpa using x) (by simpa using y);simp only [List.getElem_cons_succ] at this;exact this) (fun x Hw=>?_) (by simpa using hlen) (by rw [hset];exact cj hc CU (by omega)) h
       rcases List.mem_or_eq_of_mem_set Hw with h | h
       · exact hx x h
       · rw [h];exact q'
     · cases hz
   · cases hz
theorem UO {z:PV} {zv:Value} (hz:Rep S M z zv) (hv:z.val=true) {size:Nat} (hs:z.cells.length=size) (h0:size≠0) (len:Nat) :
 FG S M (flat (Aa0 len z)) ((Aa7 (len * size)).map (zv.cells[· % zv.cells.size]!)):=by
 have hc:=hz.cells hv;have IV:zv.cells.size=size:=by rw [hc.1,hs]
 have Zj:(flat (Aa0 len z)).length=len * size:=by rw [CV (sz:=size) (fun x hx=>by rw [Aa3 hx];exact hs)];simp
 have key:∀ (len i:Nat) (h:i < (flat (Aa0 len z)).length),(flat (Aa0 len z))[i]=z.cells[i % size]'(by rw [hs];exact Aa4 _ (by omega)):=by
  intro len
  induction len with
  | zero=>intro i h;simp [flat] at h
  | succ k ih=>
   intro i h;have e:flat (Aa0 (k+1) z)=z.cells++flat (Aa0 k z):=by simp [flat,List.replicate_succ]
   have:(flat (Aa0 (k+1) z))[i]?=z.cells[i % size]?:=by
    rw [e];by_cases hi:i < size
    · rw [List.getElem?_append_left (by omega),Nat.mod_eq_of_lt hi]
    · rw [List.getElem?_append_right (by omega),hs]
      have Bz:i - size < (flat (Aa0 k z)).length:=by rw [e] at h;simp at h;omega
      rw [Aa1 Bz,ih _ Bz]
      have:(i - size) % size=i % size:=by
       conv=>rhs;rw [show i=(i - size)+size by omega,Nat.add_mod_right]
      simp only [this];rw [Aa1]
   rw [Aa1 h,Aa1 (by rw [hs];exact Aa4 _ (by omega))] at this;injection this
 refine ⟨by simp [Zj],fun i hi=>?_,fun i hi Dp=>?_⟩
 · have hm:i % zv.cells.size < zv.cells.size:=Aa4 _ (by omega)
   simp only [Aae,Aab];rw [getElem!_pos zv.cells (i % zv.cells.size) hm];exact hc.2.1 _ hm
 · have hm:i % zv.cells.size < zv.cells.size:=Aa4 _ (by omega)
   simp only [Aae,Aab];rw [getElem!_pos zv.cells (i % zv.cells.size) hm,key];have:=hc.2.2 (i % size) (by rw [hs];exact Aa4 _ (by omega)) (by rw [IV];exact Aa4 _ (by omega));simpa only [IV] using this
theorem Po (h:Sim C D B T S M n st a w) {o:Oper} (hd:∀ k,o.dst=some k->k < n) {al:List (Nat×Loc)} (Gs:GJ M a w al) {t:TypeId} {len:Nat} {parts:Array (Nat×Operand)} (ho:o.op=.buildSlice t len parts)
 {p:PV} (hp:AZ C t len (parts.toList.map fun p=>(p.1,opd C st.env p.2))=some p) :
 Fj C D B T S M n a w o (.next (st.put o.dst p) (Ak al o.dst)):=by
 intro K Q hK;unfold AZ at hp;split at hp
 · rename_i e ht
   split at hp
   · rename_i i z hi hz
     obtain ⟨i',zv,Dp,mM,rfl⟩:=G3 hz;rw [hi] at Dp;injection Dp with Dp
     subst Dp;split at hp
     · cases hp
     · rename_i GH
       simp only [not_or,Nat.not_lt,Aa9] at GH;obtain ⟨xM,hbig,xN,Hx⟩:=GH;have Hx:(cval zv).val=true:=by simpa using Hx
       split at hp
       · rename_i xs mN
         injection hp with hp
         subst hp
         · have yH:=UO (Rep.cval (S:=S) (M:=M) zv) Hx xN xM len
           obtain ⟨vr,hfill,xO,ui,Xv⟩:=QU (S:=S) (M:=M) (parts.toList.map fun p=>(p.1,opd C st.env p.2)) (parts.toList.map fun p=>(p.1,a.eval p.2)) _ xs _ (by simp) (fun i h1 h2=>by
            simp only [List.getElem_map];exact ⟨trivial,h.opd _⟩) (fun x hx=>by rw [Aa3 hx];exact xN) (by simp) yH mN
           have mj:vr.size=len * i.size:=by rw [xO.1,CV ui,Xv]
           have Zl:vr.extract 0 (xs.length * i.size)=vr:=by rw [Xv,<- mj];simp
           have bS:len<=maxLen:=by
            have:len<=len * i.size:=Nat.le_mul_of_pos_right _ (by omega);unfold maxLen;omega
           obtain ⟨S',Ie,Xf⟩:=h.newRow hd hi ui (c:=vr) len (by rw [mj]) (by omega) bS (by rw [Zl];exact xO) w rfl rfl rfl rfl
           have hv:(execOp a.eval o).run C.P w=.ok (.value (.slice (some ⟨w.heap.size,0,none⟩) len len)) (w.alloc (.cells vr e)):=by
            rw [execOp,ho];have mO:¬ (len * i.size > 2 ^ 24):=by omega
            have hparts:(parts.map fun x=>match x with | (i,x)=>(i,a.eval x)).toList=parts.toList.map fun p=>(p.1,a.eval p.2):=by simp
            simp only [Instr.buildSlice,Aa6,AH ht,Cs hi,Aa2,if_neg mO,Aa5];by_cases Zh:len * i.size=0
            · have:len=0:=by rcases Nat.mul_eq_zero.1 Zh with h | h;exact h;exact absurd h xM
              subst this;simp only [Nat.zero_mul,if_true,Aa6,Aa5,Aa2,hparts];have e0:((Aa7 0).map fun x=>(#[]:Array Value)[x % (#[]:Array Value).size]!)=(Aa7 (0 * i.size)).map (zv.cells[· % zv.cells.size]!):=by simp
              rw [e0,hfill];rfl
            · simp only [if_neg Zh,zeroValue,typeInfo,hi,mM,Aa6,run_program,Aa5,Aa2,hparts]
              rw [hfill];rfl
           rw [Xv] at Ie;refine Ce hv (hK S' M _ _ Ie Xf (Aaf _) ?_);exact Gs.put h.size hd _ (fun _ _ x=>x) (fun b hb=>heap_alloc_old w _ b (h.mlt hb))
       · cases hp
   · cases hp
 · cases hp
theorem QV (h:Sim C D B T S M n st a w) {o:Oper} (hd:∀ k,o.dst=some k->k < n) {al:List (Nat×Loc)} (Gs:GJ M a w al) {t:TypeId} {l c:Operand} (ho:o.op=.makeSlice t l c)
 {p:PV} (hp:FX C t (opd C st.env l) (opd C st.env c)=some p) :
 Fj C D B T S M n a w o (.next (st.put o.dst p) (Ak al o.dst)):=by
 intro K Q hK;unfold FX at hp;split at hp
 · rename_i k1 m1 k2 m2 hl hc
   have el:a.eval l=.int k1 m1:=Rep.int_inv (hl ▸ h.opd l);have ec:a.eval c=.int k2 m2:=Rep.int_inv (hc ▸ h.opd c);split at hp
   · rename_i hb
     obtain ⟨rfl,ra,xP⟩:=hb;split at hp
     · rename_i e ht
       split at hp
       · rename_i i hi
         split at hp
         · rename_i vf
           unfold AZ at hp;rw [ht] at hp;simp only [hi] at hp;cases hz:tZero C e with
           | none=>rw [hz] at hp;cases hp
           | some z=>
            rw [hz] at hp;simp only at hp;obtain ⟨i',zv,Dp,mM,rfl⟩:=G3 hz;rw [hi] at Dp;injection Dp with Dp
            subst Dp;split at hp
            · cases hp
            · rename_i GH
              simp only [not_or,Nat.not_lt,Aa9] at GH;obtain ⟨xM,hbig,xN,Hx⟩:=GH;have Hx:(cval zv).val=true:=by simpa using Hx
              simp only [Aah] at hp;injection hp with hp
              subst hp;generalize hn:m1.toNat=len at *;have hm:m1=(len:Int):=by omega
              have yH:=UO (Rep.cval (S:=S) (M:=M) zv) Hx xN xM len;have Xv:(Aa0 len (cval zv)).length=len:=List.length_replicate;have ui:∀ x ∈ Aa0 len (cval zv),x.cells.length=i.size:=fun x hx=>by rw [Aa3 hx];exact xN
              generalize xL:(Aa7 (len * i.size)).map (zv.cells[· % zv.cells.size]!)=vr at *;have mj:vr.size=len * i.size:=by rw [yH.1,CV ui,Xv]
              have Zl:vr.extract 0 ((Aa0 len (cval zv)).length * i.size)=vr:=by rw [Xv,<- mj];simp
              have bS:len<=maxLen:=by unfold maxLen;omega
              obtain ⟨S',Ie,Xf⟩:=h.newRow hd hi ui (c:=vr) len (by rw [mj]) (by omega) bS (by rw [Zl];exact yH) w rfl rfl rfl rfl
              have hv:(execOp a.eval o).run C.P w=.ok (.value (.slice (some ⟨w.heap.size,0,none⟩) len len)) (w.alloc (.cells vr e)):=by
               rw [execOp,ho];have hle:i.bytes * len<=1000000 * 16777216:=Nat.mul_le_mul vf (by omega)
               have dY:(i.bytes:Int) * (len:Int)<=281474976710656:=by
                have:((i.bytes * len:Nat):Int)<=281474976710656:=by omega
                rwa [Int.natCast_mul] at this
               have hr:=run_make (P:=C.P) w t e i zv (by assumption) hi mM k1 k2 len len (Int.natCast_nonneg _) (Int.le_refl _) dY (by omega);rw [Int.toNat_natCast] at hr;unfold madeCells at hr;rw [xL] at hr;subst hm;rw [<- el,<- ec] at hr;simp only [hr,Aa6,Aa5,Aa2]
              rw [Xv] at Ie;refine Ce hv (hK S' M _ _ Ie Xf (Aaf _) ?_);exact Gs.put h.size hd _ (fun _ _ x=>x) (fun b hb=>heap_alloc_old w _ b (h.mlt hb))
         · cases hp
       · cases hp
     · cases hp
   · cases hp
 · cases hp
end
end Go.HH
