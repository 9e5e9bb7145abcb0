/-
  What the law needs, packed: Law.
-/
import Derived.Test.YthjabmlbmnadjaaGreatJ24
open Go.Value renaming cells->yW,okWide->yX
namespace Go.HH
open Go Go.RowKit Go.ChangeShapes Go.WideShapes
theorem Y6 {H:Type} {enc:TypeId×Value->H} {P:Program} {W:World} {r:Reach} {base:Nat} {ts:List TypeId} (oV:L5 P ts=true) {t:TypeId} {v:Value} {d:DataW H} {ps:List MemPlace} (ht:t ∈ ts)
 (hv:yX P W r base t v) (h:DataW.Trod enc P W 0 (fun _=>true) true t v d ps):∃ p,Rep (GM W) [] p v/\tb P t p:=by
 obtain ⟨n,hn⟩:=h;obtain ⟨pcs,hc,hT⟩:=V9 oV n t _ _ ht hn;cases ha:YZ P t with
 | true=>
  have:∃ cs,v=.agg cs/\cs.size=P.cellsOf t:=by
   unfold yX at hv;unfold YZ at ha;split at hv
   · obtain ⟨cs,h1,h2,_⟩:=hv;exact ⟨cs,h1,h2⟩
   · obtain ⟨cs,h1,h2,_⟩:=hv;exact ⟨cs,h1,h2⟩
   · rename_i h1 h2
     split at ha
     · exact absurd ‹_› (h1 _)
     · exact absurd ‹_› (h2 _ _)
     · cases ha
  obtain ⟨cs,rfl,hs⟩:=this;have hl:pcs.length=cs.size:=by have:=hc.1;simpa [yW] using this
  refine ⟨.agg pcs,.agg pcs cs hl.symm (fun i hi=>?_) (fun i hi Ey=>?_),n,pcs,by simp [mP,ha],fun _=>by rw [hl,hs],hT⟩
  · have:=(hc.2 i (by omega) (by simpa [yW] using hi)).1
    simpa [yW] using this
  · have:=(hc.2 i hi (by simpa [yW] using Ey)).2
    simpa [yW] using this
 | false=>
  obtain ⟨p,rfl,hp⟩:=hT.one ha
  have HM:∀ cs,v≠.agg cs:=by
   intro cs Jc;subst Jc;have h1:=hc.1;simp [yW] at h1;have:=(hc.2 0 (by simp) (by simp [yW,<- h1])).2;cases n with
   | zero=>exact hT.elim
   | succ n=>
    unfold yX at hv;unfold YZ at ha;split at hv
    · rename_i hu;rw [hu] at ha;simp at ha
    · rename_i hu;rw [hu] at ha;simp at ha
    · unfold Mj at hT
      have Um:R5 P ts t=true:=by
       unfold L5 at oV;rw [List.all_eq_true] at oV;exact oV t ht
      unfold R5 at Um;simp only [Cell.okWide] at hv;split at Um <;> simp_all [Cell.ok]
  have vt:v.cells.toList=[v]:=by cases v <;> first | rfl | exact absurd rfl (HM _)
  rw [vt] at hc;refine ⟨p,(hc.2 0 (by simp) (by simp)).2,n,[p],by simp [mP,ha],fun h=>(by rw [ha] at h;cases h),hT⟩
theorem Wb {C:Cfg} (hh:H0 C) (hp:HE C) {w:World} (hgw:∀ g cs,C.glob g=some cs->∃ c e f,w.heap[g]?=some (.cells c e f)/\c.size=cs.length) (hg:∀ g cs,C.glob g=some cs->Rep (GM w) [] (.ip cs) (.pointer (some ⟨g,0,none⟩)))
 {f:FuncId} {pvs:List PV} {vs:List Value} (hr:CD (GM w) [] pvs vs) (HM:∀ p ∈ pvs,∀ t xs,p≠.osl t xs) {bx':List PBox} {b:Bool} (hc:Ae C f pvs []=some (.ret (.bool b),bx')) (Qa:Jg C:=by exact mQ (fun _=>rfl)) :
 Calls C.P f vs.toArray w fun e w'=>e=.returned (.bool b)/\Below w.heap.size w w':=by
 obtain ⟨n,hn⟩:=Gz.1 hc
 have hs:Du C w.heap.size (fun _=>False) (GM w) [] [] w:=
  { holds:=fun b o v h=>h
    glob:=hg
    gw:=fun g cs h=>by
     obtain ⟨c,e,f,h1,h2⟩:=hgw g cs h;exact ⟨(Array.getElem?_eq_some_iff.1 h1).1,fun e=>e,c,e,f,h1,h2⟩
    size:=rfl
    dfr:=rfl
    env:=fun t=>by simp only [getT,List.getD_nil];exact .und _ _
    mlen:=rfl
    boxes:=fun id bx h=>by simp at h
    nodup:=List.nodup_nil
    mS:=fun b h=>by simp at h
    mT:=fun b h=>by simp at h
    hB:=Nat.le_refl _
    own:=fun l e xs v h=>by
     cases l with
     | tmp t=>simp [LocAt,getT,und] at h
     | box id off=>obtain ⟨cs,b,h,_⟩:=h;simp [Bg] at h
    apart:=fun l l' e e' xs xs' v v' g h=>by
     cases l with
     | tmp t=>simp [LocAt,getT,und] at h
     | box id off=>obtain ⟨cs,b,h,_⟩:=h;simp [Bg] at h }
 refine ((Qn hh hp Qa n f pvs [] _ _ hn).2 HM _ _ _ _ vs w hs hr).mono fun e w' ⟨S',M',_,Ym,_,ho⟩=>?_;obtain ⟨_,v,rfl,hv⟩:=ho;cases hv;exact ⟨rfl,Ym.os,Ym.tape,Ym.output,Ym.size,fun k hk=>Ym.block k hk (fun h=>h)⟩
end Go.HH
