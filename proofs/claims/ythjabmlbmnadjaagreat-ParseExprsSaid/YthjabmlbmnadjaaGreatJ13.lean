/-
  What the law needs, packed: Step5.
-/
import Derived.Test.YthjabmlbmnadjaaGreatJ12
open List renaming replicate->yW,getElem?_eq_getElem->yX,eq_of_mem_replicate->yZ,prefix_refl->za,foldlM_nil->ze
open Go.Result renaming andThen_ok->yY
open Nat renaming mod_lt->y0,mul_le_mul_right->y8,one_mul->zg,add_mul->zh,not_lt->zi
open Go.Sem renaming run_pure->y1,run_bind->y2
open Array renaming range->y3,getElem_extract->y6,getElem_range->y7,getD->y9,getElem_map->y'
open Go.Value renaming ownBlock->y4
open Decidable renaming not_not->y5
open Bool renaming and_eq_true->zd
open Go.Instr renaming fill->zf
namespace Go.HH
open Go Go.RowKit
section
variable {C:Cfg} {D:List Deferred} {B:Nat} {T:Nat->Prop} {S:AY} {M:List Nat} {n:Nat} {st:St} {a:Act} {w:World}
theorem DA {xs:List PV} {sz:Nat} (h:∀ x ∈ xs,x.cells.length=sz):(flat xs).length=xs.length * sz:=by
 induction xs with
 | nil=>simp [flat]
 | cons x r ih=>
  have:=ih (fun y hy=>h y (by simp [hy]));simp only [flat,List.flatMap_cons,List.length_append,List.length_cons] at this |-;rw [h x (by simp),this,zh,zg,Nat.add_comm]
theorem jj {xs:List PV} {sz:Nat} (h:∀ x ∈ xs,x.cells.length=sz) {i:Nat} (hi:i < xs.length) {v:PV} (hv:v.cells.length=sz):flat (xs.set i v)=lay (flat xs) (i * sz) v.cells:=by
 have e1:xs.set i v=xs.take i++v :: xs.drop (i+1):=by rw [List.set_eq_take_append_cons_drop,if_pos hi]
 rw [e1,Ix];have e2:flat (v :: xs.drop (i+1))=v.cells++flat (xs.drop (i+1)):=by simp [flat]
 rw [e2];unfold lay
 have e3:flat (xs.take i)=(flat xs).take (i * sz):=by
  have hs:flat xs=flat (xs.take i)++flat (xs.drop i):=by rw [<- Ix,List.take_append_drop]
  have hl:(flat (xs.take i)).length=i * sz:=by
   rw [DA (fun x hx=>h x (List.mem_of_mem_take hx))];rw [List.length_take,Nat.min_eq_left (by omega)]
  rw [hs,List.take_left' hl]
 have e4:flat (xs.drop (i+1))=(flat xs).drop (i * sz+v.cells.length):=by
  rw [hv,<- F2 xs (i+1) sz h (by omega),zh,zg]
 rw [e3,e4,List.append_assoc]
theorem Sim.newRow (h:Sim C D B T S M n st a w) {d:Option Tmp} (hd:∀ k,d=some k->k < n) {e:TypeId} {i:TypeInfo} (hi:C.P.info? e=some i) {xs:List PV} (hx:∀ x ∈ xs,x.cells.length=i.size)
 {c:Array Value} (cap:Nat) (K4:c.size=cap * i.size) (hl:xs.length<=cap) (hm:cap<=maxLen)
 (hc:Gm S M (flat xs) (c.extract 0 (xs.length * i.size))) (w0:World) (h0:w0.heap=w.heap) (h1:w0.os=w.os) (h2:w0.tape=w.tape) (h3:w0.output=w.output) :
 ∃ S',Sim C D B T S' M n (st.put d (.osl e xs)) (a.put d (.slice (some ⟨w.heap.size,0,none⟩) xs.length cap)) (w0.alloc (.cells c e))/\Grows B T S w S' (w0.alloc (.cells c e)):=by
 have hk:=Kept.alloc h c e (xs.length * i.size) w0 h0 h1 h2 h3;have YE:=DA hx;have hle:xs.length * i.size<=cap * i.size:=y8 _ hl;refine ⟨_,(h.kept hk).putG d hd ?_ (fun e' xs' heq=>?_),hk.grows h.hB⟩
 · refine .osl e xs _ ?_
   by_cases dH:xs=[]
   · subst dH;exact .slE _ _
   · refine .sl xs _ 0 cap (fun j=>c.getD j undef) hl ⟨_,hx⟩ (fun j hj=>?_) (fun j hj=>?_) (fun j hj=>?_)
     · rw [YE] at hj
       unfold AY.add;simp only [if_true,Nat.zero_add];rw [List.getElem?_take_of_lt hj];have Bq:j < c.size:=by omega
       simp [y9,Bq]
     · rw [YE] at hj
       have Bq:j < c.size:=by omega
       have:=hc.2.1 j (by simp;omega);simp only [y6] at this;simpa [y9,Bq] using this
     · have Ul:=hj
       rw [YE] at Ul;have Bq:j < c.size:=by omega
       have:=hc.2.2 j hj (by simp;omega);simp only [y6] at this;have:=this.mono hk.store (fun _ _ x=>x);simpa [y9,Bq] using this
 · injection heq with e1 e2
   subst e1;subst e2;refine ⟨⟨i,(c.toList.take (xs.length * i.size)),hi,⟨by simp;omega,.inr ⟨w.heap.size,cap,c,rfl,Nat.zero_le _,by rw [<- h0];exact heap_alloc_new w0 _,hl,hm,K4,rfl⟩⟩,hx,fun g hg=>?_⟩,fun g hg=>?_,fun l e' xs' u g _ FU hu hv=>?_⟩
   · simp only [y4,Option.some.injEq] at hg
     subst hg;refine ⟨fun hm=>by have:=h.mlt hm;omega,fun j hj=>?_⟩;unfold AY.add;simp only [if_true];rw [List.getElem?_eq_none];simp;omega
   · simp only [y4,Option.some.injEq] at hg
     subst hg;exact .inl h.hB
   · simp only [y4,Option.some.injEq] at hv
     subst hv;have Gk:=LocAt.back (M:=M) (fun b hb=>hk.block b (h.mlt hb)) FU;have:=(h.own l e' xs' u Gk).1.lt hu;omega
theorem WX {ag:Bool} {size:Nat} {p q:PV} (h:JI ag size p=some q):q=p.shutV/\q.cells.length=size/\q.val=true:=by
 unfold JI at h;split at h
 · rename_i cs hs
   split at h
   · rename_i hc
     injection h with h;subst h
     simp only [zd,beq_iff_eq] at hc;exact ⟨hs.symm,hc.2,rfl⟩
   · cases h
 · rename_i HM
   split at h
   · rename_i hc
     injection h with h;subst h
     simp only [zd,beq_iff_eq] at hc;obtain ⟨⟨_,h1⟩,rfl⟩:=hc;refine ⟨rfl,?_,?_⟩
     · generalize p.shutV=q at *
       cases q <;> simp_all [PV.cells,PV.one]
     · generalize p.shutV=q at *
       cases q <;> simp_all [PV.val,PV.one]
   · cases h
theorem R3 {ag:Bool} {size len:Nat}:∀ (parts:List (Nat×PV)) (vparts:List (Nat×Value)) (xs ys:List PV) (vc:Array Value),
 parts.length=vparts.length->(∀ i (h:i < parts.length) (h':i < vparts.length),parts[i].1=vparts[i].1/\Rep S M parts[i].2 vparts[i].2) ->
 (∀ x ∈ xs,x.cells.length=size)->xs.length=len->Gm S M (flat xs) vc ->
 parts.foldlM (fun (l:List PV) (p:Nat×PV)=>match JI ag size p.2 with
  | some v=>if p.1 < len then some (l.set p.1 v) else none
  | none=>none) xs=some ys ->
 ∃ vr,zf (fun i=>some (i * size,size)) vc vparts=some vr/\Gm S M (flat ys) vr/\(∀ x ∈ ys,x.cells.length=size)/\ys.length=len
 | [],vparts,xs,ys,vc,hl,_,hx,hlen,hc,h=>by
  have:vparts=[]:=List.eq_nil_of_length_eq_zero hl.symm;subst this;simp only [ze,Option.pure_def,Option.some.injEq] at h;subst h;exact ⟨vc,rfl,hc,hx,hlen⟩
 | (i,p) :: rest,vparts,xs,ys,vc,hl,hp,hx,hlen,hc,h=>by
  cases vparts with
  | nil=>simp at hl
  | cons u vparts=>
   obtain ⟨j,u⟩:=u;have h0:=hp 0 (by simp) (by simp);simp only [List.getElem_cons_zero] at h0;obtain ⟨rfl,hv⟩:=h0;simp only [List.foldlM_cons] at h;obtain ⟨z,hz,h⟩:=Option.bind_eq_some_iff.1 h;split at hz
   · rename_i v iu
     split at hz
     · rename_i hi
       injection hz with hz
       subst hz;obtain ⟨rfl,ve,sQ⟩:=WX iu;have Dz:=hv.shutV.cells sQ;have YE:=DA hx;have h1:=Dz.1;have h2:=hc.1
       have hle:i * size+size<=xs.length * size:=by
        rw [<- Nat.succ_mul];exact y8 _ (by omega)
       have hcu:u.cells=u.cells:=rfl;unfold zf;simp only [];rw [if_neg (by simp;omega)];have hset:=jj hx (i:=i) (by omega) ve
       refine R3 rest vparts (xs.set i p.shutV) ys _ (by simpa using hl) (fun k x y=>by
        have:=hp (k+1) (by simpa using x) (by simpa using y);simp only [List.getElem_cons_succ] at this;exact this) (fun x Ie=>?_) (by simpa using hlen) (by rw [hset];exact dU hc Dz (by omega)) h
       rcases List.mem_or_eq_of_mem_set Ie with h | h
       · exact hx x h
       · rw [h];exact ve
     · cases hz
   · cases hz
theorem V8 {z:PV} {zv:Value} (hz:Rep S M z zv) (hv:z.val=true) {size:Nat} (hs:z.cells.length=size) (h0:size≠0) (len:Nat) :
 Gm S M (flat (yW len z)) ((y3 (len * size)).map (zv.cells[· % zv.cells.size]!)):=by
 have hc:=hz.cells hv;have JE:zv.cells.size=size:=by rw [hc.1,hs]
 have YE:(flat (yW len z)).length=len * size:=by rw [DA (sz:=size) (fun x hx=>by rw [yZ hx];exact hs)];simp
 have key:∀ (len i:Nat) (h:i < (flat (yW len z)).length),(flat (yW len z))[i]=z.cells[i % size]'(by rw [hs];exact y0 _ (by omega)):=by
  intro len
  induction len with
  | zero=>intro i h;simp [flat] at h
  | succ k ih=>
   intro i h;have e:flat (yW (k+1) z)=z.cells++flat (yW k z):=by simp [flat,List.replicate_succ]
   have:(flat (yW (k+1) z))[i]?=z.cells[i % size]?:=by
    rw [e];by_cases hi:i < size
    · rw [List.getElem?_append_left (by omega),Nat.mod_eq_of_lt hi]
    · rw [List.getElem?_append_right (by omega),hs]
      have Bq:i - size < (flat (yW k z)).length:=by rw [e] at h;simp at h;omega
      rw [yX Bq,ih _ Bq]
      have:(i - size) % size=i % size:=by
       conv=>rhs;rw [show i=(i - size)+size by omega,Nat.add_mod_right]
      simp only [this];rw [yX]
   rw [yX h,yX (by rw [hs];exact y0 _ (by omega))] at this;injection this
 refine ⟨by simp [YE],fun i hi=>?_,fun i hi Ey=>?_⟩
 · have hm:i % zv.cells.size < zv.cells.size:=y0 _ (by omega)
   simp only [y',y7];rw [getElem!_pos zv.cells (i % zv.cells.size) hm];exact hc.2.1 _ hm
 · have hm:i % zv.cells.size < zv.cells.size:=y0 _ (by omega)
   simp only [y',y7];rw [getElem!_pos zv.cells (i % zv.cells.size) hm,key];have:=hc.2.2 (i % size) (by rw [hs];exact y0 _ (by omega)) (by rw [JE];exact y0 _ (by omega));simpa only [JE] using this
theorem QH (h:Sim C D B T S M n st a w) {o:Oper} (hd:∀ k,o.dst=some k->k < n) {al:List (Nat×Loc)} (Hb:Hu M a w al) {t:TypeId} {len:Nat} {parts:Array (Nat×Operand)} (ho:o.op=.buildSlice t len parts)
 {p:PV} (hp:AW C t len (parts.toList.map fun p=>(p.1,opd C st.env p.2))=some p) :
 F5 C D B T S M n a w o (.next (st.put o.dst p) (Ap al o.dst)):=by
 intro K Q hK;unfold AW at hp;split at hp
 · rename_i e ht
   split at hp
   · rename_i i z hi hz
     obtain ⟨i',zv,Ey,my,rfl⟩:=HX hz;rw [hi] at Ey;injection Ey with Ey
     subst Ey;split at hp
     · cases hp
     · rename_i Hr
       simp only [not_or,zi,y5] at Hr;obtain ⟨rL,hbig,vf,Hp⟩:=Hr;have Hp:(cval zv).val=true:=by simpa using Hp
       split at hp
       · rename_i xs fw
         injection hp with hp
         subst hp
         · have mz:=V8 (Rep.cval (S:=S) (M:=M) zv) Hp vf rL len
           obtain ⟨vr,hfill,vg,rM,YF⟩:=R3 (S:=S) (M:=M) (parts.toList.map fun p=>(p.1,opd C st.env p.2)) (parts.toList.map fun p=>(p.1,a.eval p.2)) _ xs _ (by simp) (fun i h1 h2=>by
            simp only [List.getElem_map];exact ⟨trivial,h.opd _⟩) (fun x hx=>by rw [yZ hx];exact vf) (by simp) mz fw
           have lY:vr.size=len * i.size:=by rw [vg.1,DA rM,YF]
           have aU:vr.extract 0 (xs.length * i.size)=vr:=by rw [YF,<- lY];simp
           have dI:len<=maxLen:=by
            have:len<=len * i.size:=Nat.le_mul_of_pos_right _ (by omega);unfold maxLen;omega
           obtain ⟨S',Ja,Ym⟩:=h.newRow hd hi rM (c:=vr) len (by rw [lY]) (by omega) dI (by rw [aU];exact vg) w rfl rfl rfl rfl
           have hv:(execOp a.eval o).run C.P w=.ok (.value (.slice (some ⟨w.heap.size,0,none⟩) len len)) (w.alloc (.cells vr e)):=by
            rw [execOp,ho];have oU:¬ (len * i.size > 2 ^ 24):=by omega
            have hparts:(parts.map fun x=>match x with | (i,x)=>(i,a.eval x)).toList=parts.toList.map fun p=>(p.1,a.eval p.2):=by simp
            simp only [Instr.buildSlice,y2,AS ht,C7 hi,yY,if_neg oU,y1];by_cases Ub:len * i.size=0
            · have:len=0:=by rcases Nat.mul_eq_zero.1 Ub with h | h;exact h;exact absurd h rL
              subst this;simp only [Nat.zero_mul,if_true,y2,y1,yY,hparts];have e0:((y3 0).map fun x=>(#[]:Array Value)[x % (#[]:Array Value).size]!)=(y3 (0 * i.size)).map (zv.cells[· % zv.cells.size]!):=by simp
              rw [e0,hfill];rfl
            · simp only [if_neg Ub,zeroValue,typeInfo,hi,my,y2,run_program,y1,yY,hparts]
              rw [hfill];rfl
           rw [YF] at Ja;refine CG hv (hK S' M _ _ Ja Ym (za _) ?_);exact Hb.put h.size hd _ (fun _ _ x=>x) (fun b hb=>heap_alloc_old w _ b (h.mlt hb))
       · cases hp
   · cases hp
 · cases hp
theorem R4 (h:Sim C D B T S M n st a w) {o:Oper} (hd:∀ k,o.dst=some k->k < n) {al:List (Nat×Loc)} (Hb:Hu M a w al) {t:TypeId} {l c:Operand} (ho:o.op=.makeSlice t l c)
 {p:PV} (hp:Gy C t (opd C st.env l) (opd C st.env c)=some p) :
 F5 C D B T S M n a w o (.next (st.put o.dst p) (Ap al o.dst)):=by
 intro K Q hK;unfold Gy at hp;split at hp
 · rename_i k1 m1 k2 m2 hl hc
   have el:a.eval l=.int k1 m1:=Rep.int_inv (hl ▸ h.opd l);have ec:a.eval c=.int k2 m2:=Rep.int_inv (hc ▸ h.opd c);split at hp
   · rename_i hb
     obtain ⟨rfl,mA,sR⟩:=hb;split at hp
     · rename_i e ht
       split at hp
       · rename_i i hi
         split at hp
         · rename_i pV
           unfold AW at hp;rw [ht] at hp;simp only [hi] at hp;cases hz:tZero C e with
           | none=>rw [hz] at hp;cases hp
           | some z=>
            rw [hz] at hp;simp only at hp;obtain ⟨i',zv,Ey,my,rfl⟩:=HX hz;rw [hi] at Ey;injection Ey with Ey
            subst Ey;split at hp
            · cases hp
            · rename_i Hr
              simp only [not_or,zi,y5] at Hr;obtain ⟨rL,hbig,vf,Hp⟩:=Hr;have Hp:(cval zv).val=true:=by simpa using Hp
              simp only [ze] at hp;injection hp with hp
              subst hp;generalize hn:m1.toNat=len at *;have hm:m1=(len:Int):=by omega
              have mz:=V8 (Rep.cval (S:=S) (M:=M) zv) Hp vf rL len;have YF:(yW len (cval zv)).length=len:=List.length_replicate;have rM:∀ x ∈ yW len (cval zv),x.cells.length=i.size:=fun x hx=>by rw [yZ hx];exact vf
              generalize vd:(y3 (len * i.size)).map (zv.cells[· % zv.cells.size]!)=vr at *;have lY:vr.size=len * i.size:=by rw [mz.1,DA rM,YF]
              have aU:vr.extract 0 ((yW len (cval zv)).length * i.size)=vr:=by rw [YF,<- lY];simp
              have dI:len<=maxLen:=by unfold maxLen;omega
              obtain ⟨S',Ja,Ym⟩:=h.newRow hd hi rM (c:=vr) len (by rw [lY]) (by omega) dI (by rw [aU];exact mz) w rfl rfl rfl rfl
              have hv:(execOp a.eval o).run C.P w=.ok (.value (.slice (some ⟨w.heap.size,0,none⟩) len len)) (w.alloc (.cells vr e)):=by
               rw [execOp,ho];have hle:i.bytes * len<=1000000 * 16777216:=Nat.mul_le_mul pV (by omega)
               have Uk:(i.bytes:Int) * (len:Int)<=281474976710656:=by
                have:((i.bytes * len:Nat):Int)<=281474976710656:=by omega
                rwa [Int.natCast_mul] at this
               have hr:=run_make (P:=C.P) w t e i zv (by assumption) hi my k1 k2 len len (Int.natCast_nonneg _) (Int.le_refl _) Uk (by omega);rw [Int.toNat_natCast] at hr;unfold madeCells at hr;rw [vd] at hr;subst hm;rw [<- el,<- ec] at hr;simp only [hr,y2,y1,yY]
              rw [YF] at Ja;refine CG hv (hK S' M _ _ Ja Ym (za _) ?_);exact Hb.put h.size hd _ (fun _ _ x=>x) (fun b hb=>heap_alloc_old w _ b (h.mlt hb))
         · cases hp
       · cases hp
     · cases hp
   · cases hp
 · cases hp
end
end Go.HH
