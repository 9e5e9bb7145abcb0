/-
  What the law needs, packed: Pure2.
-/
import Derived.Test.YtmiilonaehgplaaM6
namespace Go.HH
open Go Go.RowKit
section
variable {C:Cfg} {D:List Deferred} {B:Nat} {T:Nat->Prop} {S:Store} {M:List Nat} {n:Nat} {st:St} {a:Act} {w:World}
theorem boundP_run {y:Nat} {x:PV} {vx:Value} {k:Nat} {code:BoundsCode} (z:Nat) (hz:y<=z) (h:boundP y x=some k) (hx:Rep S M x vx) :
 (Instr.sliceBound vx z code).run C.P w=.ok k w∧k<=y:=by
 unfold boundP at h
 split at h
 · rename_i kk i
   split at h
   · rename_i hb
     injection h with h
     subst h
     rw [hx.int_inv]
     have h2:(0:Int)<=i∧i<=(z:Int):=⟨hb.1,by omega⟩
     exact ⟨by simp [Instr.sliceBound,asIntOf,h2],by omega⟩
   · cases h
 · cases h
theorem extract_bytes (s:List UInt8) (l h:Nat):(⟨s.toArray⟩:ByteArray).extract l h=⟨((s.take h).drop l).toArray⟩:=by
 apply ByteArray.ext
 simp [ByteArray.data_extract]
 rw [List.drop_take]
theorem flat_take_drop (xs:List PV) (k sz:Nat) (hz:∀ x ∈ xs,x.cells.length=sz) (hk:k<=xs.length):(flat xs).drop (k * sz)=flat (xs.drop k):=by
 induction k generalizing xs with
 | zero=>simp
 | succ k ih=>
  cases xs with
  | nil=>simp at hk
  | cons x r=>
   have hx:=hz x (by simp)
   simp only [flat,List.flatMap_cons,List.drop_succ_cons]
   rw [Nat.add_mul,Nat.one_mul,Nat.add_comm,<- List.drop_drop,List.drop_left' hx]
   exact ih r (fun y hy=>hz y (by simp [hy])) (by simpa using hk)
theorem flat_append (xs ys:List PV):flat (xs++ys)=flat xs++flat ys:=by simp [flat]
theorem Rep.sub {xs:List PV} {b o:Nat} {f:Nat->Value} (l k cap sz:Nat) (hlk:l<=k) (hk:k<=xs.length) (hsz:∀ x ∈ xs,x.cells.length=sz) (hcap:k - l<=cap)
 (h1:∀ i,i < (flat xs).length->S b (o+i)=some (f i)) (h2:∀ i,i < (flat xs).length->(f i).oneCell'=true) (h3:∀ i (h:i < (flat xs).length),Rep S M ((flat xs)[i]) (f i)) :
 Rep S M (.sl ((xs.take k).drop l)) (.slice (some ⟨b,o+l * sz,none⟩) (k - l) cap):=by
 have e1:flat ((xs.take k).drop l)=(flat (xs.take k)).drop (l * sz):=(flat_take_drop _ l sz (fun x hx=>hsz x (List.mem_of_mem_take hx)) (by simp;omega)).symm
 have e2:flat xs=flat (xs.take k)++flat (xs.drop k):=by rw [<- flat_append,List.take_append_drop]
 have hlen:((xs.take k).drop l).length=k - l:=by simp;omega
 have le:(flat (xs.take k)).length<=(flat xs).length:=by rw [e2];simp
 have hb:∀ i,i < (flat ((xs.take k).drop l)).length->l * sz+i < (flat (xs.take k)).length:=by
  intro i hi;rw [e1] at hi;simp at hi;omega
 rw [<- hlen]
 refine .sl _ b _ cap (fun i=>f (l * sz+i)) (by omega) ⟨sz,fun x hx=>hsz x (List.mem_of_mem_take (List.mem_of_mem_drop hx))⟩ (fun i hi=>?_) (fun i hi=>?_) (fun i hi=>?_)
 · rw [Nat.add_assoc];exact h1 _ (by have:=hb i hi;omega)
 · exact h2 _ (by have:=hb i hi;omega)
 · have h4:=h3 (l * sz+i) (by have:=hb i hi;omega)
   have e3:(flat xs)[l * sz+i]'(by have:=hb i hi;omega)=(flat ((xs.take k).drop l))[i]:=by
    have:(flat xs)[l * sz+i]?=(flat ((xs.take k).drop l))[i]?:=by
     rw [e1,List.getElem?_drop,e2,List.getElem?_append_left (hb i hi)]
    rw [List.getElem?_eq_getElem (by have:=hb i hi;omega),List.getElem?_eq_getElem hi] at this
    injection this
   rw [<- e3]
   exact h4
theorem Rep.pre {xs:List PV} {b o:Nat} {f:Nat->Value} (k cap:Nat) (hk:k<=xs.length) (hz:∃ sz,∀ x ∈ xs,x.cells.length=sz) (hcap:k<=cap)
 (h1:∀ i,i < (flat xs).length->S b (o+i)=some (f i)) (h2:∀ i,i < (flat xs).length->(f i).oneCell'=true) (h3:∀ i (h:i < (flat xs).length),Rep S M ((flat xs)[i]) (f i)) :
 Rep S M (.sl (xs.take k)) (.slice (some ⟨b,o,none⟩) k cap):=by
 obtain ⟨sz,hsz⟩:=hz
 have:=Rep.sub (xs:=xs) (S:=S) (M:=M) 0 k cap sz (Nat.zero_le _) hk hsz (by omega) h1 h2 h3
 simpa using this
theorem run_bounds (isSlice:Bool) {len cap:Nat} {lo hi:Option PV} {vlo vhi:Option Value} (hlc:len<=cap)
 (hlo:∀ p,lo=some p->∃ v,vlo=some v∧Rep S M p v) (hlo':lo=none->vlo=none)
 (hhi:∀ p,hi=some p->∃ v,vhi=some v∧Rep S M p v) (hhi':hi=none->vhi=none) {l h:Nat} (hh:boundO len len hi=some h) (hl:boundO h 0 lo=some l) :
 (Instr.sliceBounds isSlice len cap vlo vhi none).run C.P w=.ok (l,h,cap) w∧l<=h∧h<=len:=by
 unfold Instr.sliceBounds
 have h1:h<=len∧∀ k:Nat×Nat×Nat->Sem (Nat×Nat×Nat),True:=by
  cases hi with
  | none=>simp [boundO] at hh;exact ⟨by omega,fun _=>trivial⟩
  | some p=>
   obtain ⟨v,rfl,rv⟩:=hhi p rfl
   exact ⟨(boundP_run (C:=C) (w:=w) (code:=.sliceB) cap (by omega) hh rv).2,fun _=>trivial⟩
 have h2:l<=h:=by
  cases lo with
  | none=>simp [boundO] at hl;omega
  | some p=>
   obtain ⟨v,rfl,rv⟩:=hlo p rfl
   exact (boundP_run (C:=C) (w:=w) (code:=.sliceB) h (by omega) hl rv).2
 refine ⟨?_,h2,h1.1⟩
 cases hi with
 | none=>
  obtain rfl:=hhi' rfl
  simp [boundO] at hh
  subst hh
  cases lo with
  | none=>obtain rfl:=hlo' rfl;simp [boundO] at hl;subst hl;simp
  | some p=>
   obtain ⟨v,rfl,rv⟩:=hlo p rfl
   have:=(boundP_run (C:=C) (w:=w) (code:=.sliceB) len (Nat.le_refl _) hl rv).1
   simp [this]
 | some p=>
  obtain ⟨v,rfl,rv⟩:=hhi p rfl
  have e1:=(boundP_run (C:=C) (w:=w) (code:=if isSlice then .sliceAcap else .sliceAlen) cap (by omega) hh rv).1
  cases lo with
  | none=>obtain rfl:=hlo' rfl;simp [boundO] at hl;subst hl;simp [e1]
  | some q=>
   obtain ⟨u,rfl,ru⟩:=hlo q rfl
   have e2:=(boundP_run (C:=C) (w:=w) (code:=.sliceB) h (Nat.le_refl _) hl ru).1
   simp [e1,e2]
theorem sliceP_run {t:TypeId} {x:PV} {vx:Value} {lo hi:Option PV} {vlo vhi:Option Value} {p:PV} (h:sliceP C t x lo hi=some p) (hx:Rep S M x vx)
 (hlo:∀ p,lo=some p->∃ v,vlo=some v∧Rep S M p v) (hlo':lo=none->vlo=none)
 (hhi:∀ p,hi=some p->∃ v,vhi=some v∧Rep S M p v) (hhi':hi=none->vhi=none) :
 ∃ v,(Instr.sliceAt t vx vlo vhi none).run C.P w=.ok v w∧Rep S M p v:=by
 unfold sliceP at h
 split at h
 · rename_i s ht
   rw [hx.str_inv]
   split at h
   · rename_i hh ehh
     split at h
     · rename_i l ell
       injection h with h;subst h
       obtain ⟨hr,h1,h2⟩:=run_bounds (C:=C) (w:=w) (S:=S) (M:=M) false (Nat.le_refl _) hlo hlo' hhi hhi' ehh ell
       refine ⟨_,?_,.str _⟩
       have e:(⟨s.toArray⟩:ByteArray).size=s.length:=by simp [ByteArray.size]
       simp only [Instr.sliceAt,Instr.slice,Sem.run_bind,run_underlying' ht,Result.andThen_ok,e,hr,Option.isSome_none,Bool.false_eq_true,if_false,Sem.run_pure]
       rw [extract_bytes]
     · cases h
   · cases h
 · rename_i el x' hnot ht
   split at h
   · rename_i xs s hel hsz
     obtain ⟨i,hi0,rfl⟩:=tSize_some hsz
     obtain ⟨ad,cap,hv,hcap,hcells⟩:=hx.elems_inv hel
     rw [hv]
     split at h
     · rename_i hh ehh
       split at h
       · rename_i l ell
         split at h
         · rename_i hc
           injection h with h;subst h
           obtain ⟨hr,h1,h2⟩:=run_bounds (C:=C) (w:=w) (S:=S) (M:=M) true hcap hlo hlo' hhi hhi' ehh ell
           refine ⟨.slice (if cap=l then ad else ad.map (·.add (l * i.size))) (hh - l) (cap - l),?_,?_⟩
           · simp only [Instr.sliceAt,Instr.slice,Sem.run_bind,run_underlying' ht,Result.andThen_ok,hr,run_sizeOf' hi0,Sem.run_pure]
           · rcases hcells with rfl | ⟨b,o,rfl,hz,f,g1,g2,g3⟩
             · have e0:hh - l=0:=by simp at h2;omega
               rw [e0]
               simp only [List.take_nil,List.drop_nil]
               exact .slE _ _
             · by_cases hm:cap=l
               · have e0:hh - l=0:=by omega
                 rw [e0]
                 have:(xs.take hh).drop l=[]:=by apply List.drop_eq_nil_of_le;simp;omega
                 rw [this]
                 exact .slE _ _
               · rw [if_neg hm]
                 by_cases hl0:l=0
                 · subst hl0
                   have:=Rep.pre (S:=S) (M:=M) hh cap h2 hz (by omega) g1 g2 g3
                   simpa [Addr.add] using this
                 · have hall:∀ x ∈ xs,x.cells.length=i.size:=by
                    rcases hc with hc | hc
                    · exact absurd hc hl0
                    · intro x hx';rw [List.all_eq_true] at hc;simpa using hc x hx'
                   simp only [Option.map_some,add_none]
                   exact Rep.sub (S:=S) (M:=M) l hh (cap - l) i.size h1 h2 hall (by omega) g1 g2 g3
         · cases h
       · cases h
     · cases h
   · cases h
 · cases h
theorem fieldP_run {s:TypeId} {f:Nat} {x:PV} {vx:Value} {p:PV} (h:fieldP C s f x=some p) (hx:Rep S M x vx) :
 ∃ v,(Instr.fieldAt s vx f).run C.P w=.ok v w∧Rep S M p v:=by
 unfold fieldP at h
 split at h
 · rename_i fields ht
   split at h
   · rename_i fd hf
     split at h
     · rename_i k hk
       obtain ⟨i,hi,hik⟩:=tSize_some hk
       have hne:¬ i.size=0:=by omega
       split at h
       · injection h with h;subst h
         obtain ⟨b,o,rfl,g,g1,g2,g3⟩:=hx.ip_cells
         refine ⟨_,?_,Rep.ip_drop fd.offset g1 g2 g3⟩
         simp only [Instr.fieldAt,Instr.sureAddr,fieldPlace,Sem.run_bind,run_underlying' ht,Result.andThen_ok,hf,Sem.run_pure,run_sizeOf' hi,hne,if_false,add_none]
       · injection h with h;subst h
         obtain ⟨b,hm,rfl⟩:=hx.bp_inv
         refine ⟨_,?_,.bp _ _ b hm⟩
         simp only [Instr.fieldAt,Instr.sureAddr,fieldPlace,Sem.run_bind,run_underlying' ht,Result.andThen_ok,hf,Sem.run_pure,run_sizeOf' hi,hne,if_false,add_none]
       · cases h
     · cases h
   · cases h
 · cases h
theorem fieldV_run {s:TypeId} {f:Nat} {x:PV} {vx:Value} {p:PV} (h:fieldV C s f x=some p) (hx:Rep S M x vx) :
 ∃ v,(Instr.field s vx f).run C.P w=.ok v w∧Rep S M p v:=by
 unfold fieldV at h
 split at h
 · rename_i fields cs ht
   obtain ⟨vs,rfl,l,h1,hr⟩:=hx.agg_inv
   split at h
   · rename_i fd hf
     obtain ⟨v,hv,rv⟩:=partP_run (w:=w) h l h1 hr
     exact ⟨v,by simp [Instr.field,run_underlying' ht,hf,asAgg,hv],rv⟩
   · cases h
 · cases h
end
end Go.HH
