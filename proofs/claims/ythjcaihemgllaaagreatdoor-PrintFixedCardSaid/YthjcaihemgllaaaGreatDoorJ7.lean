/-
  What the law needs, packed: Pure2.
-/
import Derived.Test.YthjcaihemgllaaaGreatDoorJ6
open Go.Result renaming andThen_ok->Aa0
open Go.Sem renaming run_pure->Aa1,run_bind->Aa2
open Go.Instr renaming sliceAt->Aa3,fieldAt->Aa4,sliceBounds->Aa8,sliceBound->Aa9,sureAddr->Aaa,slice->Aab,field->Aac
open List renaming getElem?_eq_getElem->Aa5,mem_of_mem_take->Aa6
open Nat renaming le_refl->Aa7
namespace Go.HH
open Go Go.RowKit
section
variable {C:Cfg} {D:List Deferred} {B:Nat} {T:Nat->Prop} {S:AI} {M:List Nat} {n:Nat} {st:St} {a:Act} {w:World}
theorem G2 {y:Nat} {x:PV} {vx:Value} {k:Nat} {code:BoundsCode} (z:Nat) (hz:y<=z) (h:LU y x=some k) (hx:Rep S M x vx) :
 (Aa9 vx z code).run C.P w=.ok k w/\k<=y:=by
 unfold LU at h;split at h
 · rename_i kk i
   split at h
   · rename_i hb
     injection h with h
     subst h;rw [hx.int_inv];have h2:(0:Int)<=i/\i<=(z:Int):=⟨hb.1,by omega⟩;exact ⟨by simp [Aa9,asIntOf,h2],by omega⟩
   · cases h
 · cases h
theorem Te (s:List UInt8) (l h:Nat):(⟨s.toArray⟩:ByteArray).extract l h=⟨((s.take h).drop l).toArray⟩:=by
 apply ByteArray.ext;simp [ByteArray.data_extract];rw [List.drop_take]
theorem Fg (xs:List PV) (k sz:Nat) (hz:∀ x ∈ xs,x.cells.length=sz) (hk:k<=xs.length):(flat xs).drop (k * sz)=flat (xs.drop k):=by
 induction k generalizing xs with
 | zero=>simp
 | succ k ih=>
  cases xs with
  | nil=>simp at hk
  | cons x r=>
   have hx:=hz x (by simp);simp only [flat,List.flatMap_cons,List.drop_succ_cons];rw [Nat.add_mul,Nat.one_mul,Nat.add_comm,<- List.drop_drop,List.drop_left' hx];exact ih r (fun y hy=>hz y (by simp [hy])) (by simpa using hk)
theorem HC (xs ys:List PV):flat (xs++ys)=flat xs++flat ys:=by simp [flat]
theorem Rep.sub {xs:List PV} {b o:Nat} {f:Nat->Value} (l k cap sz:Nat) (hlk:l<=k) (hk:k<=xs.length) (IV:∀ x ∈ xs,x.cells.length=sz) (J5:k - l<=cap)
 (h1:∀ i,i < (flat xs).length->S b (o+i)=some (f i)) (h2:∀ i,i < (flat xs).length->(f i).oneCell'=true) (h3:∀ i (h:i < (flat xs).length),Rep S M ((flat xs)[i]) (f i)) :
 Rep S M (.sl ((xs.take k).drop l)) (.slice (some ⟨b,o+l * sz,none⟩) (k - l) cap):=by
 have e1:flat ((xs.take k).drop l)=(flat (xs.take k)).drop (l * sz):=(Fg _ l sz (fun x hx=>IV x (Aa6 hx)) (by simp;omega)).symm;have e2:flat xs=flat (xs.take k)++flat (xs.drop k):=by rw [<- HC,List.take_append_drop]
 have hlen:((xs.take k).drop l).length=k - l:=by simp;omega
 have le:(flat (xs.take k)).length<=(flat xs).length:=by rw [e2];simp
 have hb:∀ i,i < (flat ((xs.take k).drop l)).length->l * sz+i < (flat (xs.take k)).length:=by
  intro i hi;rw [e1] at hi;simp at hi;omega
 rw [<- hlen];refine .sl _ b _ cap (fun i=>f (l * sz+i)) (by omega) ⟨sz,fun x hx=>IV x (Aa6 (List.mem_of_mem_drop hx))⟩ (fun i hi=>?_) (fun i hi=>?_) (fun i hi=>?_)
 · rw [Nat.add_assoc];exact h1 _ (by have:=hb i hi;omega)
 · exact h2 _ (by have:=hb i hi;omega)
 · have h4:=h3 (l * sz+i) (by have:=hb i hi;omega)
   have e3:(flat xs)[l * sz+i]'(by have:=hb i hi;omega)=(flat ((xs.take k).drop l))[i]:=by
    have:(flat xs)[l * sz+i]?=(flat ((xs.take k).drop l))[i]?:=by
     rw [e1,List.getElem?_drop,e2,List.getElem?_append_left (hb i hi)]
    rw [Aa5 (by have:=hb i hi;omega),Aa5 hi] at this;injection this
   rw [<- e3];exact h4
theorem Rep.pre {xs:List PV} {b o:Nat} {f:Nat->Value} (k cap:Nat) (hk:k<=xs.length) (hz:∃ sz,∀ x ∈ xs,x.cells.length=sz) (J5:k<=cap)
 (h1:∀ i,i < (flat xs).length->S b (o+i)=some (f i)) (h2:∀ i,i < (flat xs).length->(f i).oneCell'=true) (h3:∀ i (h:i < (flat xs).length),Rep S M ((flat xs)[i]) (f i)) :
 Rep S M (.sl (xs.take k)) (.slice (some ⟨b,o,none⟩) k cap):=by
 obtain ⟨sz,IV⟩:=hz;have:=Rep.sub (xs:=xs) (S:=S) (M:=M) 0 k cap sz (Nat.zero_le _) hk IV (by omega) h1 h2 h3;simpa using this
theorem QR (isSlice:Bool) {len cap:Nat} {lo hi:Option PV} {vlo vhi:Option Value} (hlc:len<=cap)
 (dZ:∀ p,lo=some p->∃ v,vlo=some v/\Rep S M p v) (mh:lo=none->vlo=none)
 (uf:∀ p,hi=some p->∃ v,vhi=some v/\Rep S M p v) (pG:hi=none->vhi=none) {l h:Nat} (hh:D8 len len hi=some h) (hl:D8 h 0 lo=some l) :
 (Aa8 isSlice len cap vlo vhi none).run C.P w=.ok (l,h,cap) w/\l<=h/\h<=len:=by
 unfold Aa8
 have h1:h<=len/\∀ k:Nat×Nat×Nat->Sem (Nat×Nat×Nat),True:=by
  cases hi with
  | none=>simp [D8] at hh;exact ⟨by omega,fun _=>trivial⟩
  | some p=>
   obtain ⟨v,rfl,rv⟩:=uf p rfl;exact ⟨(G2 (C:=C) (w:=w) (code:=.sliceB) cap (by omega) hh rv).2,fun _=>trivial⟩
 have h2:l<=h:=by
  cases lo with
  | none=>simp [D8] at hl;omega
  | some p=>
   obtain ⟨v,rfl,rv⟩:=dZ p rfl;exact (G2 (C:=C) (w:=w) (code:=.sliceB) h (by omega) hl rv).2
 refine ⟨?_,h2,h1.1⟩;cases hi with
 | none=>
  obtain rfl:=pG rfl;simp [D8] at hh;subst hh;cases lo with
  | none=>obtain rfl:=mh rfl;simp [D8] at hl;subst hl;simp
  | some p=>
   obtain ⟨v,rfl,rv⟩:=dZ p rfl;have:=(G2 (C:=C) (w:=w) (code:=.sliceB) len (Aa7 _) hl rv).1;simp [this]
 | some p=>
  obtain ⟨v,rfl,rv⟩:=uf p rfl;have e1:=(G2 (C:=C) (w:=w) (code:=if isSlice then .sliceAcap else .sliceAlen) cap (by omega) hh rv).1;cases lo with
  | none=>obtain rfl:=mh rfl;simp [D8] at hl;subst hl;simp [e1]
  | some q=>
   obtain ⟨u,rfl,ru⟩:=dZ q rfl;have e2:=(G2 (C:=C) (w:=w) (code:=.sliceB) h (Aa7 _) hl ru).1;simp [e1,e2]
theorem ZR {t:TypeId} {x:PV} {vx:Value} {lo hi:Option PV} {vlo vhi:Option Value} {p:PV} (h:FV C t x lo hi=some p) (hx:Rep S M x vx)
 (dZ:∀ p,lo=some p->∃ v,vlo=some v/\Rep S M p v) (mh:lo=none->vlo=none)
 (uf:∀ p,hi=some p->∃ v,vhi=some v/\Rep S M p v) (pG:hi=none->vhi=none) :
 ∃ v,(Aa3 t vx vlo vhi none).run C.P w=.ok v w/\Rep S M p v:=by
 unfold FV at h;split at h
 · rename_i s ht
   rw [hx.str_inv];split at h
   · rename_i hh ehh
     split at h
     · rename_i l ell
       injection h with h;subst h
       obtain ⟨hr,h1,h2⟩:=QR (C:=C) (w:=w) (S:=S) (M:=M) false (Aa7 _) dZ mh uf pG ehh ell;refine ⟨_,?_,.str _⟩;have e:(⟨s.toArray⟩:ByteArray).size=s.length:=by simp [ByteArray.size]
       simp only [Aa3,Aab,Aa2,AH ht,Aa0,e,hr,Option.isSome_none,Bool.false_eq_true,if_false,Aa1];rw [Te]
     · cases h
   · cases h
 · rename_i el x' hnot ht
   split at h
   · rename_i xs s q9 IV
     obtain ⟨i,D3,rfl⟩:=DP IV;obtain ⟨ad,cap,hv,J5,CU⟩:=hx.elems_inv q9;rw [hv];split at h
     · rename_i hh ehh
       split at h
       · rename_i l ell
         split at h
         · rename_i hc
           injection h with h;subst h
           obtain ⟨hr,h1,h2⟩:=QR (C:=C) (w:=w) (S:=S) (M:=M) true J5 dZ mh uf pG ehh ell;refine ⟨.slice (if cap=l then ad else ad.map (·.add (l * i.size))) (hh - l) (cap - l),?_,?_⟩
           · simp only [Aa3,Aab,Aa2,AH ht,Aa0,hr,Cs D3,Aa1]
           · rcases CU with rfl | ⟨b,o,rfl,hz,f,g1,g2,g3⟩
             · have e0:hh - l=0:=by simp at h2;omega
               rw [e0];simp only [List.take_nil,List.drop_nil];exact .slE _ _
             · by_cases hm:cap=l
               · have e0:hh - l=0:=by omega
                 rw [e0];have:(xs.take hh).drop l=[]:=by apply List.drop_eq_nil_of_le;simp;omega
                 rw [this];exact .slE _ _
               · rw [if_neg hm]
                 by_cases Zh:l=0
                 · subst Zh
                   have:=Rep.pre (S:=S) (M:=M) hh cap h2 hz (by omega) g1 g2 g3;simpa [Addr.add] using this
                 · have D1:∀ x ∈ xs,x.cells.length=i.size:=by
                    rcases hc with hc | hc
                    · exact absurd hc Zh
                    · intro x Hw;rw [List.all_eq_true] at hc;simpa using hc x Hw
                   simp only [Option.map_some,DU];exact Rep.sub (S:=S) (M:=M) l hh (cap - l) i.size h1 h2 D1 (by omega) g1 g2 g3
         · cases h
       · cases h
     · cases h
   · cases h
 · cases h
theorem ZS {s:TypeId} {f:Nat} {x:PV} {vx:Value} {p:PV} (h:AG C s f x=some p) (hx:Rep S M x vx) :
 ∃ v,(Aa4 s vx f).run C.P w=.ok v w/\Rep S M p v:=by
 unfold AG at h;split at h
 · rename_i fields ht
   split at h
   · rename_i fd hf
     split at h
     · rename_i k hk
       obtain ⟨i,hi,eb⟩:=DP hk;have Dz:¬ i.size=0:=by omega
       split at h
       · injection h with h;subst h
         obtain ⟨b,o,rfl,g,g1,g2,g3⟩:=hx.ip_cells;refine ⟨_,?_,Rep.ip_drop fd.offset g1 g2 g3⟩;simp only [Aa4,Aaa,fieldPlace,Aa2,AH ht,Aa0,hf,Aa1,Cs hi,Dz,if_false,DU]
       · injection h with h;subst h
         obtain ⟨b,hm,rfl⟩:=hx.bp_inv;refine ⟨_,?_,.bp _ _ b hm⟩;simp only [Aa4,Aaa,fieldPlace,Aa2,AH ht,Aa0,hf,Aa1,Cs hi,Dz,if_false,DU]
       · cases h
     · cases h
   · cases h
 · cases h
theorem ZT {s:TypeId} {f:Nat} {x:PV} {vx:Value} {p:PV} (h:Bi C s f x=some p) (hx:Rep S M x vx) :
 ∃ v,(Aac s vx f).run C.P w=.ok v w/\Rep S M p v:=by
 unfold Bi at h;split at h
 · rename_i fields cs ht
   obtain ⟨vs,rfl,l,h1,hr⟩:=hx.agg_inv;split at h
   · rename_i fd hf
     obtain ⟨v,hv,rv⟩:=K6 (w:=w) h l h1 hr;exact ⟨v,by simp [Aac,AH ht,hf,asAgg,hv],rv⟩
   · cases h
 · cases h
end
end Go.HH
