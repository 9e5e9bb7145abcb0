/-
  What the law needs, packed: Law.
-/
import Derived.Test.YtmiilonaehgplaaM25
namespace Go.HH
open Go Go.RowKit Go.ChangeShapes Go.WideShapes
theorem read_arg {H:Type} {enc:TypeId×Value->H} {P:Program} {W:World} {r:Reach} {base:Nat} {ts:List TypeId} (hts:plainIn P ts=true) {t:TypeId} {v:Value} {d:DataW H} {ps:List MemPlace} (ht:t ∈ ts)
 (hv:Value.okWide P W r base t v) (h:DataW.Trod enc P W 0 (fun _=>true) true t v d ps):∃ p,Rep (storeOf W) [] p v∧HasV P t p:=by
 obtain ⟨n,hn⟩:=h
 obtain ⟨pcs,hc,hT⟩:=read_pure hts n t _ _ ht hn
 cases ha:aggT P t with
 | true=>
  have:∃ cs,v=.agg cs∧cs.size=P.cellsOf t:=by
   unfold Value.okWide at hv
   unfold aggT at ha
   split at hv
   · obtain ⟨cs,h1,h2,_⟩:=hv;exact ⟨cs,h1,h2⟩
   · obtain ⟨cs,h1,h2,_⟩:=hv;exact ⟨cs,h1,h2⟩
   · rename_i h1 h2
     split at ha
     · exact absurd ‹_› (h1 _)
     · exact absurd ‹_› (h2 _ _)
     · cases ha
  obtain ⟨cs,rfl,hs⟩:=this
  have hl:pcs.length=cs.size:=by have:=hc.1;simpa [Value.cells] using this
  refine ⟨.agg pcs,.agg pcs cs hl.symm (fun i hi=>?_) (fun i hi hi'=>?_),n,pcs,by simp [mkV,ha],fun _=>by rw [hl,hs],hT⟩
  · have:=(hc.2 i (by omega) (by simpa [Value.cells] using hi)).1
    simpa [Value.cells] using this
  · have:=(hc.2 i hi (by simpa [Value.cells] using hi')).2
    simpa [Value.cells] using this
 | false=>
  obtain ⟨p,rfl,hp⟩:=hT.one ha
  have hno:∀ cs,v≠.agg cs:=by
   intro cs hcs
   subst hcs
   have h1:=hc.1
   simp [Value.cells] at h1
   have:=(hc.2 0 (by simp) (by simp [Value.cells,<- h1])).2
   cases n with
   | zero=>exact hT.elim
   | succ n=>
    unfold Value.okWide at hv
    unfold aggT at ha
    split at hv
    · rename_i hu;rw [hu] at ha;simp at ha
    · rename_i hu;rw [hu] at ha;simp at ha
    · unfold HasT at hT
      have hpl:plain1 P ts t=true:=by
       unfold plainIn at hts
       rw [List.all_eq_true] at hts
       exact hts t ht
      unfold plain1 at hpl
      simp only [Cell.okWide] at hv
      split at hpl <;> simp_all [Cell.ok]
  have hv1:v.cells.toList=[v]:=by cases v <;> first | rfl | exact absurd rfl (hno _)
  rw [hv1] at hc
  refine ⟨p,(hc.2 0 (by simp) (by simp)).2,n,[p],by simp [mkV,ha],fun h=>(by rw [ha] at h;cases h),hT⟩
theorem law_calls {C:Cfg} (hh:HPrimSound C) (hp:PrimSound C) {w:World} (hgw:∀ g cs,C.glob g=some cs->∃ c e f,w.heap[g]?=some (.cells c e f)∧c.size=cs.length) (hg:∀ g cs,C.glob g=some cs->Rep (storeOf w) [] (.ip cs) (.pointer (some ⟨g,0,none⟩)))
 {f:FuncId} {pvs:List PV} {vs:List Value} (hr:RepL (storeOf w) [] pvs vs) (hno:∀ p ∈ pvs,∀ t xs,p≠.osl t xs) {bx':List PBox} {b:Bool} (hc:callL C f pvs []=some (.ret (.bool b),bx')) (hcat:CatSound C:=by exact catNone (fun _=>rfl)) :
 Calls C.P f vs.toArray w fun e w'=>e=.returned (.bool b)∧Below w.heap.size w w':=by
 obtain ⟨n,hn⟩:=callL_iff.1 hc
 have hs:HSim C w.heap.size (fun _=>False) (storeOf w) [] [] w:=
  { holds:=fun b o v h=>h
    glob:=hg
    gw:=fun g cs h=>by
     obtain ⟨c,e,f,h1,h2⟩:=hgw g cs h
     exact ⟨(Array.getElem?_eq_some_iff.1 h1).1,fun e=>e,c,e,f,h1,h2⟩
    size:=rfl
    dfr:=rfl
    env:=fun t=>by simp only [getT,List.getD_nil];exact .und _ _
    mlen:=rfl
    boxes:=fun id bx h=>by simp at h
    nodup:=List.nodup_nil
    mS:=fun b h=>by simp at h
    mT:=fun b h=>by simp at h
    hB:=Nat.le_refl _
    own:=fun l e xs v h=>by
     cases l with
     | tmp t=>simp [LocAt,getT,und] at h
     | box id off=>obtain ⟨cs,b,h,_⟩:=h;simp [boxCells] at h
    apart:=fun l l' e e' xs xs' v v' g h=>by
     cases l with
     | tmp t=>simp [LocAt,getT,und] at h
     | box id off=>obtain ⟨cs,b,h,_⟩:=h;simp [boxCells] at h }
 refine ((callF_sound hh hp hcat n f pvs [] _ _ hn).2 hno _ _ _ _ vs w hs hr).mono fun e w' ⟨S',M',_,hgr,_,ho⟩=>?_
 obtain ⟨_,v,rfl,hv⟩:=ho
 cases hv
 exact ⟨rfl,hgr.os,hgr.tape,hgr.output,hgr.size,fun k hk=>hgr.block k hk (fun h=>h)⟩
end Go.HH
