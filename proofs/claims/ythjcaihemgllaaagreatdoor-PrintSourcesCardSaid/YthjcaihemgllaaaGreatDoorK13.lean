/-
  What the law needs, packed: Step5.
-/
import Derived.Test.YthjcaihemgllaaaGreatDoorK12
open List renaming replicate->Aau,getElem?_eq_getElem->Aav,eq_of_mem_replicate->Aax,prefix_refl->Ab9,foldlM_nil->Abb
open Go.Result renaming andThen_ok->Aaw
open Nat renaming mod_lt->Aay,mul_le_mul_right->Ab6,one_mul->Abd,add_mul->Abe
open Go.Sem renaming run_pure->Aaz,run_bind->Ab0
open Array renaming range->Ab1,getElem_extract->Ab4,getElem_range->Ab5,getD->Ab7,getElem_map->Ab8
open Go.Value renaming ownBlock->Ab2
open Decidable renaming not_not->Ab3
open Bool renaming and_eq_true->Aba
open Go.Instr renaming fill->Abc
namespace Go.HH
open Go Go.RowKit
section
variable {C:Cfg} {D:List Deferred} {B:Nat} {T:Nat->Prop} {S:AJ} {M:List Nat} {n:Nat} {st:St} {a:Act} {w:World}
theorem CV {xs:List PV} {sz:Nat} (h:∀ x ∈ xs,x.cells.length=sz):(flat xs).length=xs.length * sz:=by
 induction xs with
 | nil=>simp [flat]
 | cons x r ih=>
  have:=ih (fun y hy=>h y (by simp [hy]));simp only [flat,List.flatMap_cons,List.length_append,List.length_cons] at this |-;rw [h x (by simp),this,Abe,Abd,Nat.add_comm]
theorem iW {xs:List PV} {sz:Nat} (h:∀ x ∈ xs,x.cells.length=sz) {i:Nat} (hi:i < xs.length) {v:PV} (hv:v.cells.length=sz):flat (xs.set i v)=lay (flat xs) (i * sz) v.cells:=by
 have e1:xs.set i v=xs.take i++v :: xs.drop (i+1):=by rw [List.set_eq_take_append_cons_drop,if_pos hi]
 rw [e1,HG];have e2:flat (v :: xs.drop (i+1))=v.cells++flat (xs.drop (i+1)):=by simp [flat]
 rw [e2];unfold lay
 have e3:flat (xs.take i)=(flat xs).take (i * sz):=by
  have hs:flat xs=flat (xs.take i)++flat (xs.drop i):=by rw [<- HG,List.take_append_drop]
  have hl:(flat (xs.take i)).length=i * sz:=by
   rw [CV (fun x hx=>h x (List.mem_of_mem_take hx))];rw [List.length_take,Nat.min_eq_left (by omega)]
  rw [hs,List.take_left' hl]
 have e4:flat (xs.drop (i+1))=(flat xs).drop (i * sz+v.cells.length):=by
  rw [hv,<- Fc xs (i+1) sz h (by omega),Abe,Abd]
 rw [e3,e4,List.append_assoc]
theorem Sim.newRow (h:Sim C D B T S M n st a w) {d:Option Tmp} (hd:∀ k,d=some k->k < n) {e:TypeId} {i:TypeInfo} (hi:C.P.info? e=some i) {xs:List PV} (hx:∀ x ∈ xs,x.cells.length=i.size)
 {c:Array Value} (cap:Nat) (Kc:c.size=cap * i.size) (hl:xs.length<=cap) (hm:cap<=maxLen)
 (hc:FG S M (flat xs) (c.extract 0 (xs.length * i.size))) (w0:World) (h0:w0.heap=w.heap) (h1:w0.os=w.os) (h2:w0.tape=w.tape) (h3:w0.output=w.output) :
 ∃ S',Sim C D B T S' M n (st.put d (.osl e xs)) (a.put d (.slice (some ⟨w.heap.size,0,none⟩) xs.length cap)) (w0.alloc (.cells c e))/\Grows B T S w S' (w0.alloc (.cells c e)):=by
 have hk:=Kept.alloc h c e (xs.length * i.size) w0 h0 h1 h2 h3;have ZA:=CV hx;have hle:xs.length * i.size<=cap * i.size:=Ab6 _ hl;refine ⟨_,(h.kept hk).putG d hd ?_ (fun e' xs' heq=>?_),hk.grows h.hB⟩
 · refine .osl e xs _ ?_
   by_cases cz:xs=[]
   · subst cz;exact .slE _ _
   · refine .sl xs _ 0 cap (fun j=>c.getD j undef) hl ⟨_,hx⟩ (fun j hj=>?_) (fun j hj=>?_) (fun j hj=>?_)
     · rw [ZA] at hj
       unfold AJ.add;simp only [if_true,Nat.zero_add];rw [List.getElem?_take_of_lt hj];have BC:j < c.size:=by omega
       simp [Ab7,BC]
     · rw [ZA] at hj
       have BC:j < c.size:=by omega
       have:=hc.2.1 j (by simp;omega);simp only [Ab4] at this;simpa [Ab7,BC] using this
     · have ir:=hj
       rw [ZA] at ir;have BC:j < c.size:=by omega
       have:=hc.2.2 j hj (by simp;omega);simp only [Ab4] at this;have:=this.mono hk.store (fun _ _ x=>x);simpa [Ab7,BC] using this
 · injection heq with e1 e2
   subst e1;subst e2;refine ⟨⟨i,(c.toList.take (xs.length * i.size)),hi,⟨by simp;omega,.inr ⟨w.heap.size,cap,c,rfl,Nat.zero_le _,by rw [<- h0];exact heap_alloc_new w0 _,hl,hm,Kc,rfl⟩⟩,hx,fun g hg=>?_⟩,fun g hg=>?_,fun l e' xs' u g _ D3 hu hv=>?_⟩
   · simp only [Ab2,Option.some.injEq] at hg
     subst hg;refine ⟨fun hm=>by have:=h.mlt hm;omega,fun j hj=>?_⟩;unfold AJ.add;simp only [if_true];rw [List.getElem?_eq_none];simp;omega
   · simp only [Ab2,Option.some.injEq] at hg
     subst hg;exact .inl h.hB
   · simp only [Ab2,Option.some.injEq] at hv
     subst hv;have HT:=LocAt.back (M:=M) (fun b hb=>hk.block b (h.mlt hb)) D3;have:=(h.own l e' xs' u HT).1.lt hu;omega
theorem V2 {ag:Bool} {size:Nat} {p q:PV} (h:Gd ag size p=some q):q=p.shutV/\q.cells.length=size/\q.val=true:=by
 unfold Gd at h;split at h
 · rename_i cs hs
   split at h
   · rename_i hc
     injection h with h;subst h
     simp only [Aba,beq_iff_eq] at hc;exact ⟨hs.symm,hc.2,rfl⟩
   · cases h
 · rename_i G0
   split at h
   · rename_i hc
     injection h with h;subst h
     simp only [Aba,beq_iff_eq] at hc;obtain ⟨⟨_,h1⟩,rfl⟩:=hc;refine ⟨rfl,?_,?_⟩
     · generalize p.shutV=q at *
       cases q <;> simp_all [PV.cells,PV.one]
     · generalize p.shutV=q at *
       cases q <;> simp_all [PV.val,PV.one]
   · cases h
theorem Q6 {ag:Bool} {size len:Nat}:∀ (parts:List (Nat×PV)) (vparts:List (Nat×Value)) (xs ys:List PV) (vc:Array Value),
 parts.length=vparts.length->(∀ i (h:i < parts.length) (h':i < vparts.length),parts[i].1=vparts[i].1/\Rep S M parts[i].2 vparts[i].2) ->
 (∀ x ∈ xs,x.cells.length=size)->xs.length=len->FG S M (flat xs) vc ->
 parts.foldlM (fun (l:List PV) (p:Nat×PV)=>match Gd ag size p.2 with
  | some v=>if p.1 < len then some (l.set p.1 v) else none
  | none=>none) xs=some ys ->
 ∃ vr,Abc (fun i=>some (i * size,size)) vc vparts=some vr/\FG S M (flat ys) vr/\(∀ x ∈ ys,x.cells.length=size)/\ys.length=len
 | [],vparts,xs,ys,vc,hl,_,hx,hlen,hc,h=>by
  have:vparts=[]:=List.eq_nil_of_length_eq_zero hl.symm;subst this;simp only [Abb,Option.pure_def,Option.some.injEq] at h;subst h;exact ⟨vc,rfl,hc,hx,hlen⟩
 | (i,p) :: rest,vparts,xs,ys,vc,hl,hp,hx,hlen,hc,h=>by
  cases vparts with
  | nil=>simp at hl
  | cons u vparts=>
   obtain ⟨j,u⟩:=u;have h0:=hp 0 (by simp) (by simp);simp only [List.getElem_cons_zero] at h0;obtain ⟨rfl,hv⟩:=h0;simp only [List.foldlM_cons] at h;obtain ⟨z,hz,h⟩:=Option.bind_eq_some_iff.1 h;split at hz
   · rename_i v ZB
     split at hz
     · rename_i hi
       injection hz with hz
       subst hz;obtain ⟨rfl,yC,vV⟩:=V2 ZB;have CU:=hv.shutV.cells vV;have ZA:=CV hx;have h1:=CU.1;have h2:=hc.1
       have hle:i * size+size<=xs.length * size:=by
        rw [<- Nat.succ_mul];exact Ab6 _ (by omega)
       have hcu:u.cells=u.cells:=rfl;unfold Abc;simp only [];rw [if_neg (by simp;omega)];have hset:=iW hx (i:=i) (by omega) yC
       refine Q6 rest vparts (xs.set i p.shutV) ys _ (by simpa using hl) (fun k x y=>by
        have:=hp (k+1) (by simpa using x) (by simpa using y);simp only [List.getElem_cons_succ] at this;exact this) (fun x Gz=>?_) (by simpa using hlen) (by rw [hset];exact cU hc CU (by omega)) h
       rcases List.mem_or_eq_of_mem_set Gz with h | h
       · exact hx x h
       · rw [h];exact yC
     · cases hz
   · cases hz
theorem U3 {z:PV} {zv:Value} (hz:Rep S M z zv) (hv:z.val=true) {size:Nat} (hs:z.cells.length=size) (h0:size≠0) (len:Nat) :
 FG S M (flat (Aau len z)) ((Ab1 (len * size)).map (zv.cells[· % zv.cells.size]!)):=by
 have hc:=hz.cells hv;have I4:zv.cells.size=size:=by rw [hc.1,hs]
 have ZA:(flat (Aau len z)).length=len * size:=by rw [CV (sz:=size) (fun x hx=>by rw [Aax hx];exact hs)];simp
 have key:∀ (len i:Nat) (h:i < (flat (Aau len z)).length),(flat (Aau len z))[i]=z.cells[i % size]'(by rw [hs];exact Aay _ (by omega)):=by
  intro len
  induction len with
  | zero=>intro i h;simp [flat] at h
  | succ k ih=>
   intro i h;have e:flat (Aau (k+1) z)=z.cells++flat (Aau k z):=by simp [flat,List.replicate_succ]
   have:(flat (Aau (k+1) z))[i]?=z.cells[i % size]?:=by
    rw [e];by_cases hi:i < size
    · rw [List.getElem?_append_left (by omega),Nat.mod_eq_of_lt hi]
    · rw [List.getElem?_append_right (by omega),hs]
      have BC:i - size < (flat (Aau k z)).length:=by rw [e] at h;simp at h;omega
      rw [Aav BC,ih _ BC]
      have:(i - size) % size=i % size:=by
       conv=>rhs;rw [show i=(i - size)+size by omega,Nat.add_mod_right]
      simp only [this];rw [Aav]
   rw [Aav h,Aav (by rw [hs];exact Aay _ (by omega))] at this;injection this
 refine ⟨by simp [ZA],fun i hi=>?_,fun i hi Dm=>?_⟩
 · have hm:i % zv.cells.size < zv.cells.size:=Aay _ (by omega)
   simp only [Ab8,Ab5];rw [getElem!_pos zv.cells (i % zv.cells.size) hm];exact hc.2.1 _ hm
 · have hm:i % zv.cells.size < zv.cells.size:=Aay _ (by omega)
   simp only [Ab8,Ab5];rw [getElem!_pos zv.cells (i % zv.cells.size) hm,key];have:=hc.2.2 (i % size) (by rw [hs];exact Aay _ (by omega)) (by rw [I4];exact Aay _ (by omega));simpa only [I4] using this
theorem PB (h:Sim C D B T S M n st a w) {o:Oper} (hd:∀ k,o.dst=some k->k < n) {al:List (Nat×Loc)} (FF:GK M a w al) {t:TypeId} {len:Nat} {parts:Array (Nat×Operand)} (ho:o.op=.buildSlice t len parts)
 {p:PV} (hp:AZ C t len (parts.toList.map fun p=>(p.1,opd C st.env p.2))=some p) :
 Fg C D B T S M n a w o (.next (st.put o.dst p) (Aj al o.dst)):=by
 intro K Q hK;unfold AZ at hp;split at hp
 · rename_i e ht
   split at hp
   · rename_i i z hi hz
     obtain ⟨i',zv,Dm,nv,rfl⟩:=G9 hz;rw [hi] at Dm;injection Dm with Dm
     subst Dm;split at hp
     · cases hp
     · rename_i GI
       simp only [not_or,Nat.not_lt,Ab3] at GI;obtain ⟨yD,hbig,yE,HB⟩:=GI;have HB:(cval zv).val=true:=by simpa using HB
       split at hp
       · rename_i xs nw
         injection hp with hp
         subst hp
         · have zg:=U3 (Rep.cval (S:=S) (M:=M) zv) HB yE yD len
           obtain ⟨vr,hfill,yF,uU,XL⟩:=Q6 (S:=S) (M:=M) (parts.toList.map fun p=>(p.1,opd C st.env p.2)) (parts.toList.map fun p=>(p.1,a.eval p.2)) _ xs _ (by simp) (fun i h1 h2=>by
            simp only [List.getElem_map];exact ⟨trivial,h.opd _⟩) (fun x hx=>by rw [Aax hx];exact yE) (by simp) zg nw
           have mQ:vr.size=len * i.size:=by rw [yF.1,CV uU,XL]
           have ZD:vr.extract 0 (xs.length * i.size)=vr:=by rw [XL,<- mQ];simp
           have cE:len<=maxLen:=by
            have:len<=len * i.size:=Nat.le_mul_of_pos_right _ (by omega);unfold maxLen;omega
           obtain ⟨S',Il,Xw⟩:=h.newRow hd hi uU (c:=vr) len (by rw [mQ]) (by omega) cE (by rw [ZD];exact yF) w rfl rfl rfl rfl
           have hv:(execOp a.eval o).run C.P w=.ok (.value (.slice (some ⟨w.heap.size,0,none⟩) len len)) (w.alloc (.cells vr e)):=by
            rw [execOp,ho];have nz:¬ (len * i.size > 2 ^ 24):=by omega
            have hparts:(parts.map fun x=>match x with | (i,x)=>(i,a.eval x)).toList=parts.toList.map fun p=>(p.1,a.eval p.2):=by simp
            simp only [Instr.buildSlice,Ab0,AH ht,Ct hi,Aaw,if_neg nz,Aaz];by_cases Zy:len * i.size=0
            · have:len=0:=by rcases Nat.mul_eq_zero.1 Zy with h | h;exact h;exact absurd h yD
              subst this;simp only [Nat.zero_mul,if_true,Ab0,Aaz,Aaw,hparts];have e0:((Ab1 0).map fun x=>(#[]:Array Value)[x % (#[]:Array Value).size]!)=(Ab1 (0 * i.size)).map (zv.cells[· % zv.cells.size]!):=by simp
              rw [e0,hfill];rfl
            · simp only [if_neg Zy,zeroValue,typeInfo,hi,nv,Ab0,run_program,Aaz,Aaw,hparts]
              rw [hfill];rfl
           rw [XL] at Il;refine Cg hv (hK S' M _ _ Il Xw (Ab9 _) ?_);exact FF.put h.size hd _ (fun _ _ x=>x) (fun b hb=>heap_alloc_old w _ b (h.mlt hb))
       · cases hp
   · cases hp
 · cases hp
theorem Q7 (h:Sim C D B T S M n st a w) {o:Oper} (hd:∀ k,o.dst=some k->k < n) {al:List (Nat×Loc)} (FF:GK M a w al) {t:TypeId} {l c:Operand} (ho:o.op=.makeSlice t l c)
 {p:PV} (hp:FY C t (opd C st.env l) (opd C st.env c)=some p) :
 Fg C D B T S M n a w o (.next (st.put o.dst p) (Aj al o.dst)):=by
 intro K Q hK;unfold FY at hp;split at hp
 · rename_i k1 m1 k2 m2 hl hc
   have el:a.eval l=.int k1 m1:=Rep.int_inv (hl ▸ h.opd l);have ec:a.eval c=.int k2 m2:=Rep.int_inv (hc ▸ h.opd c);split at hp
   · rename_i hb
     obtain ⟨rfl,rQ,yG⟩:=hb;split at hp
     · rename_i e ht
       split at hp
       · rename_i i hi
         split at hp
         · rename_i vW
           unfold AZ at hp;rw [ht] at hp;simp only [hi] at hp;cases hz:tZero C e with
           | none=>rw [hz] at hp;cases hp
           | some z=>
            rw [hz] at hp;simp only at hp;obtain ⟨i',zv,Dm,nv,rfl⟩:=G9 hz;rw [hi] at Dm;injection Dm with Dm
            subst Dm;split at hp
            · cases hp
            · rename_i GI
              simp only [not_or,Nat.not_lt,Ab3] at GI;obtain ⟨yD,hbig,yE,HB⟩:=GI;have HB:(cval zv).val=true:=by simpa using HB
              simp only [Abb] at hp;injection hp with hp
              subst hp;generalize hn:m1.toNat=len at *;have hm:m1=(len:Int):=by omega
              have zg:=U3 (Rep.cval (S:=S) (M:=M) zv) HB yE yD len;have XL:(Aau len (cval zv)).length=len:=List.length_replicate;have uU:∀ x ∈ Aau len (cval zv),x.cells.length=i.size:=fun x hx=>by rw [Aax hx];exact yE
              generalize yB:(Ab1 (len * i.size)).map (zv.cells[· % zv.cells.size]!)=vr at *;have mQ:vr.size=len * i.size:=by rw [zg.1,CV uU,XL]
              have ZD:vr.extract 0 ((Aau len (cval zv)).length * i.size)=vr:=by rw [XL,<- mQ];simp
              have cE:len<=maxLen:=by unfold maxLen;omega
              obtain ⟨S',Il,Xw⟩:=h.newRow hd hi uU (c:=vr) len (by rw [mQ]) (by omega) cE (by rw [ZD];exact zg) w rfl rfl rfl rfl
              have hv:(execOp a.eval o).run C.P w=.ok (.value (.slice (some ⟨w.heap.size,0,none⟩) len len)) (w.alloc (.cells vr e)):=by
               rw [execOp,ho];have hle:i.bytes * len<=1000000 * 16777216:=Nat.mul_le_mul vW (by omega)
               have eH:(i.bytes:Int) * (len:Int)<=281474976710656:=by
                have:((i.bytes * len:Nat):Int)<=281474976710656:=by omega
                rwa [Int.natCast_mul] at this
               have hr:=run_make (P:=C.P) w t e i zv (by assumption) hi nv k1 k2 len len (Int.natCast_nonneg _) (Int.le_refl _) eH (by omega);rw [Int.toNat_natCast] at hr;unfold madeCells at hr;rw [yB] at hr;subst hm;rw [<- el,<- ec] at hr;simp only [hr,Ab0,Aaz,Aaw]
              rw [XL] at Il;refine Cg hv (hK S' M _ _ Il Xw (Ab9 _) ?_);exact FF.put h.size hd _ (fun _ _ x=>x) (fun b hb=>heap_alloc_old w _ b (h.mlt hb))
         · cases hp
       · cases hp
     · cases hp
   · cases hp
 · cases hp
end
end Go.HH
