/-
  What the law needs, packed: Pure2.
-/
import Derived.Test.YthjabmlbmnadjaaGreatJ6
open Go.Result renaming andThen_ok->yW
open Go.Sem renaming run_pure->yX,run_bind->yY
open Go.Instr renaming sliceAt->yZ,fieldAt->y0,sliceBounds->y4,sliceBound->y5,sureAddr->y6,slice->y7,field->y8
open List renaming getElem?_eq_getElem->y1,mem_of_mem_take->y2
open Nat renaming le_refl->y3
open ByteArray renaming size->y9,ext->y',data_extract->za
namespace Go.HH
open Go Go.RowKit
section
variable {C:Cfg} {D:List Deferred} {B:Nat} {T:Nat->Prop} {S:AY} {M:List Nat} {n:Nat} {st:St} {a:Act} {w:World}
theorem HW {y:Nat} {x:PV} {vx:Value} {k:Nat} {code:BoundsCode} (z:Nat) (hz:y<=z) (h:Pg y x=some k) (hx:Rep S M x vx) :
 (y5 vx z code).run C.P w=.ok k w/\k<=y:=by
 unfold Pg at h;split at h
 · rename_i kk i
   split at h
   · rename_i hb
     injection h with h
     subst h;rw [hx.int_inv];have h2:(0:Int)<=i/\i<=(z:Int):=⟨hb.1,by omega⟩;exact ⟨by simp [y5,asIntOf,h2],by omega⟩
   · cases h
 · cases h
theorem Uq (s:List UInt8) (l h:Nat):(⟨s.toArray⟩:ByteArray).extract l h=⟨((s.take h).drop l).toArray⟩:=by
 apply y';simp [za];rw [List.drop_take]
theorem F2 (xs:List PV) (k sz:Nat) (hz:∀ x ∈ xs,x.cells.length=sz) (hk:k<=xs.length):(flat xs).drop (k * sz)=flat (xs.drop k):=by
 induction k generalizing xs with
 | zero=>simp
 | succ k ih=>
  cases xs with
  | nil=>simp at hk
  | cons x r=>
   have hx:=hz x (by simp);simp only [flat,List.flatMap_cons,List.drop_succ_cons];rw [Nat.add_mul,Nat.one_mul,Nat.add_comm,<- List.drop_drop,List.drop_left' hx];exact ih r (fun y hy=>hz y (by simp [hy])) (by simpa using hk)
theorem Ix (xs ys:List PV):flat (xs++ys)=flat xs++flat ys:=by simp [flat]
theorem Rep.sub {xs:List PV} {b o:Nat} {f:Nat->Value} (l k cap sz:Nat) (hlk:l<=k) (hk:k<=xs.length) (JE:∀ x ∈ xs,x.cells.length=sz) (K4:k - l<=cap)
 (h1:∀ i,i < (flat xs).length->S b (o+i)=some (f i)) (h2:∀ i,i < (flat xs).length->(f i).oneCell'=true) (h3:∀ i (h:i < (flat xs).length),Rep S M ((flat xs)[i]) (f i)) :
 Rep S M (.sl ((xs.take k).drop l)) (.slice (some ⟨b,o+l * sz,none⟩) (k - l) cap):=by
 have e1:flat ((xs.take k).drop l)=(flat (xs.take k)).drop (l * sz):=(F2 _ l sz (fun x hx=>JE x (y2 hx)) (by simp;omega)).symm;have e2:flat xs=flat (xs.take k)++flat (xs.drop k):=by rw [<- Ix,List.take_append_drop]
 have hlen:((xs.take k).drop l).length=k - l:=by simp;omega
 have le:(flat (xs.take k)).length<=(flat xs).length:=by rw [e2];simp
 have hb:∀ i,i < (flat ((xs.take k).drop l)).length->l * sz+i < (flat (xs.take k)).length:=by
  intro i hi;rw [e1] at hi;simp at hi;omega
 rw [<- hlen];refine .sl _ b _ cap (fun i=>f (l * sz+i)) (by omega) ⟨sz,fun x hx=>JE x (y2 (List.mem_of_mem_drop hx))⟩ (fun i hi=>?_) (fun i hi=>?_) (fun i hi=>?_)
 · rw [Nat.add_assoc];exact h1 _ (by have:=hb i hi;omega)
 · exact h2 _ (by have:=hb i hi;omega)
 · have h4:=h3 (l * sz+i) (by have:=hb i hi;omega)
   have e3:(flat xs)[l * sz+i]'(by have:=hb i hi;omega)=(flat ((xs.take k).drop l))[i]:=by
    have:(flat xs)[l * sz+i]?=(flat ((xs.take k).drop l))[i]?:=by
     rw [e1,List.getElem?_drop,e2,List.getElem?_append_left (hb i hi)]
    rw [y1 (by have:=hb i hi;omega),y1 hi] at this;injection this
   rw [<- e3];exact h4
theorem Rep.pre {xs:List PV} {b o:Nat} {f:Nat->Value} (k cap:Nat) (hk:k<=xs.length) (hz:∃ sz,∀ x ∈ xs,x.cells.length=sz) (K4:k<=cap)
 (h1:∀ i,i < (flat xs).length->S b (o+i)=some (f i)) (h2:∀ i,i < (flat xs).length->(f i).oneCell'=true) (h3:∀ i (h:i < (flat xs).length),Rep S M ((flat xs)[i]) (f i)) :
 Rep S M (.sl (xs.take k)) (.slice (some ⟨b,o,none⟩) k cap):=by
 obtain ⟨sz,JE⟩:=hz;have:=Rep.sub (xs:=xs) (S:=S) (M:=M) 0 k cap sz (Nat.zero_le _) hk JE (by omega) h1 h2 h3;simpa using this
theorem RY (isSlice:Bool) {len cap:Nat} {lo hi:Option PV} {vlo vhi:Option Value} (hlc:len<=cap)
 (pU:∀ p,lo=some p->∃ v,vlo=some v/\Rep S M p v) (lX:lo=none->vlo=none)
 (rI:∀ p,hi=some p->∃ v,vhi=some v/\Rep S M p v) (oT:hi=none->vhi=none) {l h:Nat} (hh:FY len len hi=some h) (hl:FY h 0 lo=some l) :
 (y4 isSlice len cap vlo vhi none).run C.P w=.ok (l,h,cap) w/\l<=h/\h<=len:=by
 unfold y4
 have h1:h<=len/\∀ k:Nat×Nat×Nat->Sem (Nat×Nat×Nat),True:=by
  cases hi with
  | none=>simp [FY] at hh;exact ⟨by omega,fun _=>trivial⟩
  | some p=>
   obtain ⟨v,rfl,rv⟩:=rI p rfl;exact ⟨(HW (C:=C) (w:=w) (code:=.sliceB) cap (by omega) hh rv).2,fun _=>trivial⟩
 have h2:l<=h:=by
  cases lo with
  | none=>simp [FY] at hl;omega
  | some p=>
   obtain ⟨v,rfl,rv⟩:=pU p rfl;exact (HW (C:=C) (w:=w) (code:=.sliceB) h (by omega) hl rv).2
 refine ⟨?_,h2,h1.1⟩;cases hi with
 | none=>
  obtain rfl:=oT rfl;simp [FY] at hh;subst hh;cases lo with
  | none=>obtain rfl:=lX rfl;simp [FY] at hl;subst hl;simp
  | some p=>
   obtain ⟨v,rfl,rv⟩:=pU p rfl;have:=(HW (C:=C) (w:=w) (code:=.sliceB) len (y3 _) hl rv).1;simp [this]
 | some p=>
  obtain ⟨v,rfl,rv⟩:=rI p rfl;have e1:=(HW (C:=C) (w:=w) (code:=if isSlice then .sliceAcap else .sliceAlen) cap (by omega) hh rv).1;cases lo with
  | none=>obtain rfl:=lX rfl;simp [FY] at hl;subst hl;simp [e1]
  | some q=>
   obtain ⟨u,rfl,ru⟩:=pU q rfl;have e2:=(HW (C:=C) (w:=w) (code:=.sliceB) h (y3 _) hl ru).1;simp [e1,e2]
theorem bI {t:TypeId} {x:PV} {vx:Value} {lo hi:Option PV} {vlo vhi:Option Value} {p:PV} (h:HQ C t x lo hi=some p) (hx:Rep S M x vx)
 (pU:∀ p,lo=some p->∃ v,vlo=some v/\Rep S M p v) (lX:lo=none->vlo=none)
 (rI:∀ p,hi=some p->∃ v,vhi=some v/\Rep S M p v) (oT:hi=none->vhi=none) :
 ∃ v,(yZ t vx vlo vhi none).run C.P w=.ok v w/\Rep S M p v:=by
 unfold HQ at h;split at h
 · rename_i s ht
   rw [hx.str_inv];split at h
   · rename_i hh ehh
     split at h
     · rename_i l ell
       injection h with h;subst h
       obtain ⟨hr,h1,h2⟩:=RY (C:=C) (w:=w) (S:=S) (M:=M) false (y3 _) pU lX rI oT ehh ell;refine ⟨_,?_,.str _⟩;have e:(⟨s.toArray⟩:ByteArray).size=s.length:=by simp [y9]
       simp only [yZ,y7,yY,AS ht,yW,e,hr,Option.isSome_none,Bool.false_eq_true,if_false,yX];rw [Uq]
     · cases h
   · cases h
 · rename_i el x' hnot ht
   split at h
   · rename_i xs s pT JE
     obtain ⟨i,DF,rfl⟩:=Er JE;obtain ⟨ad,cap,hv,K4,Dz⟩:=hx.elems_inv pT;rw [hv];split at h
     · rename_i hh ehh
       split at h
       · rename_i l ell
         split at h
         · rename_i hc
           injection h with h;subst h
           obtain ⟨hr,h1,h2⟩:=RY (C:=C) (w:=w) (S:=S) (M:=M) true K4 pU lX rI oT ehh ell;refine ⟨.slice (if cap=l then ad else ad.map (·.add (l * i.size))) (hh - l) (cap - l),?_,?_⟩
           · simp only [yZ,y7,yY,AS ht,yW,hr,C7 DF,yX]
           · rcases Dz with rfl | ⟨b,o,rfl,hz,f,g1,g2,g3⟩
             · have e0:hh - l=0:=by simp at h2;omega
               rw [e0];simp only [List.take_nil,List.drop_nil];exact .slE _ _
             · by_cases hm:cap=l
               · have e0:hh - l=0:=by omega
                 rw [e0];have:(xs.take hh).drop l=[]:=by apply List.drop_eq_nil_of_le;simp;omega
                 rw [this];exact .slE _ _
               · rw [if_neg hm]
                 by_cases Ub:l=0
                 · subst Ub
                   have:=Rep.pre (S:=S) (M:=M) hh cap h2 hz (by omega) g1 g2 g3;simpa [Addr.add] using this
                 · have FA:∀ x ∈ xs,x.cells.length=i.size:=by
                    rcases hc with hc | hc
                    · exact absurd hc Ub
                    · intro x Ie;rw [List.all_eq_true] at hc;simpa using hc x Ie
                   simp only [Option.map_some,EC];exact Rep.sub (S:=S) (M:=M) l hh (cap - l) i.size h1 h2 FA (by omega) g1 g2 g3
         · cases h
       · cases h
     · cases h
   · cases h
 · cases h
theorem bJ {s:TypeId} {f:Nat} {x:PV} {vx:Value} {p:PV} (h:AH C s f x=some p) (hx:Rep S M x vx) :
 ∃ v,(y0 s vx f).run C.P w=.ok v w/\Rep S M p v:=by
 unfold AH at h;split at h
 · rename_i fields ht
   split at h
   · rename_i fd hf
     split at h
     · rename_i k hk
       obtain ⟨i,hi,fu⟩:=Er hk;have DZ:¬ i.size=0:=by omega
       split at h
       · injection h with h;subst h
         obtain ⟨b,o,rfl,g,g1,g2,g3⟩:=hx.ip_cells;refine ⟨_,?_,Rep.ip_drop fd.offset g1 g2 g3⟩;simp only [y0,y6,fieldPlace,yY,AS ht,yW,hf,yX,C7 hi,DZ,if_false,EC]
       · injection h with h;subst h
         obtain ⟨b,hm,rfl⟩:=hx.bp_inv;refine ⟨_,?_,.bp _ _ b hm⟩;simp only [y0,y6,fieldPlace,yY,AS ht,yW,hf,yX,C7 hi,DZ,if_false,EC]
       · cases h
     · cases h
   · cases h
 · cases h
theorem bK {s:TypeId} {f:Nat} {x:PV} {vx:Value} {p:PV} (h:Bu C s f x=some p) (hx:Rep S M x vx) :
 ∃ v,(y8 s vx f).run C.P w=.ok v w/\Rep S M p v:=by
 unfold Bu at h;split at h
 · rename_i fields cs ht
   obtain ⟨vs,rfl,l,h1,hr⟩:=hx.agg_inv;split at h
   · rename_i fd hf
     obtain ⟨v,hv,rv⟩:=L3 (w:=w) h l h1 hr;exact ⟨v,by simp [y8,AS ht,hf,asAgg,hv],rv⟩
   · cases h
 · cases h
end
end Go.HH
