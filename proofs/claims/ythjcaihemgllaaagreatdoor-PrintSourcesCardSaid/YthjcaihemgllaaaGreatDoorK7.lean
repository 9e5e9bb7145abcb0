/-
  What the law needs, packed: Pure2.
-/
import Derived.Test.YthjcaihemgllaaaGreatDoorK6
open Go.Result renaming andThen_ok->Aau
open Go.Sem renaming run_pure->Aav,run_bind->Aaw
open Go.Instr renaming sliceAt->Aax,fieldAt->Aay,sliceBounds->Ab2,sliceBound->Ab3,sureAddr->Ab4,slice->Ab5,field->Ab6
open List renaming getElem?_eq_getElem->Aaz,mem_of_mem_take->Ab0
open Nat renaming le_refl->Ab1
namespace Go.HH
open Go Go.RowKit
section
variable {C:Cfg} {D:List Deferred} {B:Nat} {T:Nat->Prop} {S:AJ} {M:List Nat} {n:Nat} {st:St} {a:Act} {w:World}
theorem G8 {y:Nat} {x:PV} {vx:Value} {k:Nat} {code:BoundsCode} (z:Nat) (hz:y<=z) (h:L4 y x=some k) (hx:Rep S M x vx) :
 (Ab3 vx z code).run C.P w=.ok k w/\k<=y:=by
 unfold L4 at h;split at h
 · rename_i kk i
   split at h
   · rename_i hb
     injection h with h
     subst h;rw [hx.int_inv];have h2:(0:Int)<=i/\i<=(z:Int):=⟨hb.1,by omega⟩;exact ⟨by simp [Ab3,asIntOf,h2],by omega⟩
   · cases h
 · cases h
theorem Tt (s:List UInt8) (l h:Nat):(⟨s.toArray⟩:ByteArray).extract l h=⟨((s.take h).drop l).toArray⟩:=by
 apply ByteArray.ext;simp [ByteArray.data_extract];rw [List.drop_take]
theorem Fc (xs:List PV) (k sz:Nat) (hz:∀ x ∈ xs,x.cells.length=sz) (hk:k<=xs.length):(flat xs).drop (k * sz)=flat (xs.drop k):=by
 induction k generalizing xs with
 | zero=>simp
 | succ k ih=>
  cases xs with
  | nil=>simp at hk
  | cons x r=>
   have hx:=hz x (by simp);simp only [flat,List.flatMap_cons,List.drop_succ_cons];rw [Nat.add_mul,Nat.one_mul,Nat.add_comm,<- List.drop_drop,List.drop_left' hx];exact ih r (fun y hy=>hz y (by simp [hy])) (by simpa using hk)
theorem HG (xs ys:List PV):flat (xs++ys)=flat xs++flat ys:=by simp [flat]
theorem Rep.sub {xs:List PV} {b o:Nat} {f:Nat->Value} (l k cap sz:Nat) (hlk:l<=k) (hk:k<=xs.length) (I4:∀ x ∈ xs,x.cells.length=sz) (Kc:k - l<=cap)
 (h1:∀ i,i < (flat xs).length->S b (o+i)=some (f i)) (h2:∀ i,i < (flat xs).length->(f i).oneCell'=true) (h3:∀ i (h:i < (flat xs).length),Rep S M ((flat xs)[i]) (f i)) :
 Rep S M (.sl ((xs.take k).drop l)) (.slice (some ⟨b,o+l * sz,none⟩) (k - l) cap):=by
 have e1:flat ((xs.take k).drop l)=(flat (xs.take k)).drop (l * sz):=(Fc _ l sz (fun x hx=>I4 x (Ab0 hx)) (by simp;omega)).symm;have e2:flat xs=flat (xs.take k)++flat (xs.drop k):=by rw [<- HG,List.take_append_drop]
 have hlen:((xs.take k).drop l).length=k - l:=by simp;omega
 have le:(flat (xs.take k)).length<=(flat xs).length:=by rw [e2];simp
 have hb:∀ i,i < (flat ((xs.take k).drop l)).length->l * sz+i < (flat (xs.take k)).length:=by
  intro i hi;rw [e1] at hi;simp at hi;omega
 rw [<- hlen];refine .sl _ b _ cap (fun i=>f (l * sz+i)) (by omega) ⟨sz,fun x hx=>I4 x (Ab0 (List.mem_of_mem_drop hx))⟩ (fun i hi=>?_) (fun i hi=>?_) (fun i hi=>?_)
 · rw [Nat.add_assoc];exact h1 _ (by have:=hb i hi;omega)
 · exact h2 _ (by have:=hb i hi;omega)
 · have h4:=h3 (l * sz+i) (by have:=hb i hi;omega)
   have e3:(flat xs)[l * sz+i]'(by have:=hb i hi;omega)=(flat ((xs.take k).drop l))[i]:=by
    have:(flat xs)[l * sz+i]?=(flat ((xs.take k).drop l))[i]?:=by
     rw [e1,List.getElem?_drop,e2,List.getElem?_append_left (hb i hi)]
    rw [Aaz (by have:=hb i hi;omega),Aaz hi] at this;injection this
   rw [<- e3];exact h4
theorem Rep.pre {xs:List PV} {b o:Nat} {f:Nat->Value} (k cap:Nat) (hk:k<=xs.length) (hz:∃ sz,∀ x ∈ xs,x.cells.length=sz) (Kc:k<=cap)
 (h1:∀ i,i < (flat xs).length->S b (o+i)=some (f i)) (h2:∀ i,i < (flat xs).length->(f i).oneCell'=true) (h3:∀ i (h:i < (flat xs).length),Rep S M ((flat xs)[i]) (f i)) :
 Rep S M (.sl (xs.take k)) (.slice (some ⟨b,o,none⟩) k cap):=by
 obtain ⟨sz,I4⟩:=hz;have:=Rep.sub (xs:=xs) (S:=S) (M:=M) 0 k cap sz (Nat.zero_le _) hk I4 (by omega) h1 h2 h3;simpa using this
theorem Q3 (isSlice:Bool) {len cap:Nat} {lo hi:Option PV} {vlo vhi:Option Value} (hlc:len<=cap)
 (eI:∀ p,lo=some p->∃ v,vlo=some v/\Rep S M p v) (mO:lo=none->vlo=none)
 (uR:∀ p,hi=some p->∃ v,vhi=some v/\Rep S M p v) (qy:hi=none->vhi=none) {l h:Nat} (hh:D7 len len hi=some h) (hl:D7 h 0 lo=some l) :
 (Ab2 isSlice len cap vlo vhi none).run C.P w=.ok (l,h,cap) w/\l<=h/\h<=len:=by
 unfold Ab2
 have h1:h<=len/\∀ k:Nat×Nat×Nat->Sem (Nat×Nat×Nat),True:=by
  cases hi with
  | none=>simp [D7] at hh;exact ⟨by omega,fun _=>trivial⟩
  | some p=>
   obtain ⟨v,rfl,rv⟩:=uR p rfl;exact ⟨(G8 (C:=C) (w:=w) (code:=.sliceB) cap (by omega) hh rv).2,fun _=>trivial⟩
 have h2:l<=h:=by
  cases lo with
  | none=>simp [D7] at hl;omega
  | some p=>
   obtain ⟨v,rfl,rv⟩:=eI p rfl;exact (G8 (C:=C) (w:=w) (code:=.sliceB) h (by omega) hl rv).2
 refine ⟨?_,h2,h1.1⟩;cases hi with
 | none=>
  obtain rfl:=qy rfl;simp [D7] at hh;subst hh;cases lo with
  | none=>obtain rfl:=mO rfl;simp [D7] at hl;subst hl;simp
  | some p=>
   obtain ⟨v,rfl,rv⟩:=eI p rfl;have:=(G8 (C:=C) (w:=w) (code:=.sliceB) len (Ab1 _) hl rv).1;simp [this]
 | some p=>
  obtain ⟨v,rfl,rv⟩:=uR p rfl;have e1:=(G8 (C:=C) (w:=w) (code:=if isSlice then .sliceAcap else .sliceAlen) cap (by omega) hh rv).1;cases lo with
  | none=>obtain rfl:=mO rfl;simp [D7] at hl;subst hl;simp [e1]
  | some q=>
   obtain ⟨u,rfl,ru⟩:=eI q rfl;have e2:=(G8 (C:=C) (w:=w) (code:=.sliceB) h (Ab1 _) hl ru).1;simp [e1,e2]
theorem ah {t:TypeId} {x:PV} {vx:Value} {lo hi:Option PV} {vlo vhi:Option Value} {p:PV} (h:FW C t x lo hi=some p) (hx:Rep S M x vx)
 (eI:∀ p,lo=some p->∃ v,vlo=some v/\Rep S M p v) (mO:lo=none->vlo=none)
 (uR:∀ p,hi=some p->∃ v,vhi=some v/\Rep S M p v) (qy:hi=none->vhi=none) :
 ∃ v,(Aax t vx vlo vhi none).run C.P w=.ok v w/\Rep S M p v:=by
 unfold FW at h;split at h
 · rename_i s ht
   rw [hx.str_inv];split at h
   · rename_i hh ehh
     split at h
     · rename_i l ell
       injection h with h;subst h
       obtain ⟨hr,h1,h2⟩:=Q3 (C:=C) (w:=w) (S:=S) (M:=M) false (Ab1 _) eI mO uR qy ehh ell;refine ⟨_,?_,.str _⟩;have e:(⟨s.toArray⟩:ByteArray).size=s.length:=by simp [ByteArray.size]
       simp only [Aax,Ab5,Aaw,AH ht,Aau,e,hr,Option.isSome_none,Bool.false_eq_true,if_false,Aav];rw [Tt]
     · cases h
   · cases h
 · rename_i el x' hnot ht
   split at h
   · rename_i xs s rP I4
     obtain ⟨i,DK,rfl⟩:=DO I4;obtain ⟨ad,cap,hv,Kc,CU⟩:=hx.elems_inv rP;rw [hv];split at h
     · rename_i hh ehh
       split at h
       · rename_i l ell
         split at h
         · rename_i hc
           injection h with h;subst h
           obtain ⟨hr,h1,h2⟩:=Q3 (C:=C) (w:=w) (S:=S) (M:=M) true Kc eI mO uR qy ehh ell;refine ⟨.slice (if cap=l then ad else ad.map (·.add (l * i.size))) (hh - l) (cap - l),?_,?_⟩
           · simp only [Aax,Ab5,Aaw,AH ht,Aau,hr,Ct DK,Aav]
           · rcases CU with rfl | ⟨b,o,rfl,hz,f,g1,g2,g3⟩
             · have e0:hh - l=0:=by simp at h2;omega
               rw [e0];simp only [List.take_nil,List.drop_nil];exact .slE _ _
             · by_cases hm:cap=l
               · have e0:hh - l=0:=by omega
                 rw [e0];have:(xs.take hh).drop l=[]:=by apply List.drop_eq_nil_of_le;simp;omega
                 rw [this];exact .slE _ _
               · rw [if_neg hm]
                 by_cases Zy:l=0
                 · subst Zy
                   have:=Rep.pre (S:=S) (M:=M) hh cap h2 hz (by omega) g1 g2 g3;simpa [Addr.add] using this
                 · have D1:∀ x ∈ xs,x.cells.length=i.size:=by
                    rcases hc with hc | hc
                    · exact absurd hc Zy
                    · intro x Gz;rw [List.all_eq_true] at hc;simpa using hc x Gz
                   simp only [Option.map_some,DU];exact Rep.sub (S:=S) (M:=M) l hh (cap - l) i.size h1 h2 D1 (by omega) g1 g2 g3
         · cases h
       · cases h
     · cases h
   · cases h
 · cases h
theorem ai {s:TypeId} {f:Nat} {x:PV} {vx:Value} {p:PV} (h:AG C s f x=some p) (hx:Rep S M x vx) :
 ∃ v,(Aay s vx f).run C.P w=.ok v w/\Rep S M p v:=by
 unfold AG at h;split at h
 · rename_i fields ht
   split at h
   · rename_i fd hf
     split at h
     · rename_i k hk
       obtain ⟨i,hi,eJ⟩:=DO hk;have Dx:¬ i.size=0:=by omega
       split at h
       · injection h with h;subst h
         obtain ⟨b,o,rfl,g,g1,g2,g3⟩:=hx.ip_cells;refine ⟨_,?_,Rep.ip_drop fd.offset g1 g2 g3⟩;simp only [Aay,Ab4,fieldPlace,Aaw,AH ht,Aau,hf,Aav,Ct hi,Dx,if_false,DU]
       · injection h with h;subst h
         obtain ⟨b,hm,rfl⟩:=hx.bp_inv;refine ⟨_,?_,.bp _ _ b hm⟩;simp only [Aay,Ab4,fieldPlace,Aaw,AH ht,Aau,hf,Aav,Ct hi,Dx,if_false,DU]
       · cases h
     · cases h
   · cases h
 · cases h
theorem aj {s:TypeId} {f:Nat} {x:PV} {vx:Value} {p:PV} (h:Bj C s f x=some p) (hx:Rep S M x vx) :
 ∃ v,(Ab6 s vx f).run C.P w=.ok v w/\Rep S M p v:=by
 unfold Bj at h;split at h
 · rename_i fields cs ht
   obtain ⟨vs,rfl,l,h1,hr⟩:=hx.agg_inv;split at h
   · rename_i fd hf
     obtain ⟨v,hv,rv⟩:=Le (w:=w) h l h1 hr;exact ⟨v,by simp [Ab6,AH ht,hf,asAgg,hv],rv⟩
   · cases h
 · cases h
end
end Go.HH
