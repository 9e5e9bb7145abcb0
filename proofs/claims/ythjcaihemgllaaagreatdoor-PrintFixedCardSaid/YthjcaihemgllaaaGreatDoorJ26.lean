/-
  What the law needs, packed: Law.
-/
import Derived.Test.YthjcaihemgllaaaGreatDoorJ25
open Go.Value renaming cells->Aa0,okWide->Aa1
namespace Go.HH
open Go Go.RowKit Go.ChangeShapes Go.WideShapes
theorem iE {H:Type} {enc:TypeId×Value->H} {P:Program} {W:World} {r:Reach} {base:Nat} {ts:List TypeId} (pH:MB P ts=true) {t:TypeId} {v:Value} {d:DataW H} {ps:List MemPlace} (ht:t ∈ ts)
 (hv:Aa1 P W r base t v) (h:DataW.Trod enc P W 0 (fun _=>true) true t v d ps):∃ p,Rep (EI W) [] p v/\vE P t p:=by
 obtain ⟨n,hn⟩:=h;obtain ⟨pcs,hc,hT⟩:=UP pH n t _ _ ht hn;cases ha:XP P t with
 | true=>
  have:∃ cs,v=.agg cs/\cs.size=P.cellsOf t:=by
   unfold Aa1 at hv;unfold XP at ha;split at hv
   · obtain ⟨cs,h1,h2,_⟩:=hv;exact ⟨cs,h1,h2⟩
   · obtain ⟨cs,h1,h2,_⟩:=hv;exact ⟨cs,h1,h2⟩
   · rename_i h1 h2
     split at ha
     · exact absurd ‹_› (h1 _)
     · exact absurd ‹_› (h2 _ _)
     · cases ha
  obtain ⟨cs,rfl,hs⟩:=this;have hl:pcs.length=cs.size:=by have:=hc.1;simpa [Aa0] using this
  refine ⟨.agg pcs,.agg pcs cs hl.symm (fun i hi=>?_) (fun i hi Dp=>?_),n,pcs,by simp [np,ha],fun _=>by rw [hl,hs],hT⟩
  · have:=(hc.2 i (by omega) (by simpa [Aa0] using hi)).1
    simpa [Aa0] using this
  · have:=(hc.2 i hi (by simpa [Aa0] using Dp)).2
    simpa [Aa0] using this
 | false=>
  obtain ⟨p,rfl,hp⟩:=hT.one ha
  have GU:∀ cs,v≠.agg cs:=by
   intro cs JI;subst JI;have h1:=hc.1;simp [Aa0] at h1;have:=(hc.2 0 (by simp) (by simp [Aa0,<- h1])).2;cases n with
   | zero=>exact hT.elim
   | succ n=>
    unfold Aa1 at hv;unfold XP at ha;split at hv
    · rename_i hu;rw [hu] at ha;simp at ha
    · rename_i hu;rw [hu] at ha;simp at ha
    · unfold Lj at hT
      have J7:QW P ts t=true:=by
       unfold MB at pH;rw [List.all_eq_true] at pH;exact pH t ht
      unfold QW at J7;simp only [Cell.okWide] at hv;split at J7 <;> simp_all [Cell.ok]
  have vp:v.cells.toList=[v]:=by cases v <;> first | rfl | exact absurd rfl (GU _)
  rw [vp] at hc;refine ⟨p,(hc.2 0 (by simp) (by simp)).2,n,[p],by simp [np,ha],fun h=>(by rw [ha] at h;cases h),hT⟩
theorem eO {C:Cfg} (hh:G6 C) (hp:GP C) {w:World} (yP:∀ g cs,C.glob g=some cs->∃ c e f,w.heap[g]?=some (.cells c e f)/\c.size=cs.length) (hg:∀ g cs,C.glob g=some cs->Rep (EI w) [] (.ip cs) (.pointer (some ⟨g,0,none⟩)))
 {f:FuncId} {pvs:List PV} {vs:List Value} (hr:Cd (EI w) [] pvs vs) (GU:∀ p ∈ pvs,∀ t xs,p≠.osl t xs) {bx':List PBox} {b:Bool} (hc:Ad C f pvs []=some (.ret (.bool b),bx')) (OU:Il C:=by exact nq (fun _=>rfl)) :
 Calls C.P f vs.toArray w fun e w'=>e=.returned (.bool b)/\Below w.heap.size w w':=by
 obtain ⟨n,hn⟩:=ES.1 hc
 have hs:CO C w.heap.size (fun _=>False) (EI w) [] [] w:=
  { holds:=fun b o v h=>h
    glob:=hg
    gw:=fun g cs h=>by
     obtain ⟨c,e,f,h1,h2⟩:=yP g cs h;exact ⟨(Array.getElem?_eq_some_iff.1 h1).1,fun e=>e,c,e,f,h1,h2⟩
    size:=rfl
    dfr:=rfl
    env:=fun t=>by simp only [getT,List.getD_nil];exact .und _ _
    mlen:=rfl
    boxes:=fun id bx h=>by simp at h
    nodup:=List.nodup_nil
    mS:=fun b h=>by simp at h
    mT:=fun b h=>by simp at h
    hB:=Nat.le_refl _
    own:=fun l e xs v h=>by
     cases l with
     | tmp t=>simp [LocAt,getT,und] at h
     | box id off=>obtain ⟨cs,b,h,_⟩:=h;simp [A0] at h
    apart:=fun l l' e e' xs xs' v v' g h=>by
     cases l with
     | tmp t=>simp [LocAt,getT,und] at h
     | box id off=>obtain ⟨cs,b,h,_⟩:=h;simp [A0] at h }
 refine ((O8 hh hp OU n f pvs [] _ _ hn).2 GU _ _ _ _ vs w hs hr).mono fun e w' ⟨S',M',_,Xf,_,ho⟩=>?_;obtain ⟨_,v,rfl,hv⟩:=ho;cases hv;exact ⟨rfl,Xf.os,Xf.tape,Xf.output,Xf.size,fun k hk=>Xf.block k hk (fun h=>h)⟩
end Go.HH
