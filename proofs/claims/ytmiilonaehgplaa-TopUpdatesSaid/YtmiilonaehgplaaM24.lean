/-
  What the law needs, packed: Pm.
-/
import Derived.Test.YtmiilonaehgplaaM23
namespace Go.HH
open Go Go.RowKit
theorem Eqv.back {n:Nat} {st st':St} (h:Eqv n st st') {id:Nat} {b:PBox} (hb:st'.bx[id]?=some b):st.bx[swp n id]?=some b:=by
 have hi:id < n+2:=by rw [<- h.len'];exact (List.getElem?_eq_some_iff.1 hb).1
 have hj:swp n id < st.bx.length:=by rw [h.len];exact swp_lt2 hi
 obtain ⟨_,h2⟩:=h.bx _ _ (List.getElem?_eq_getElem hj)
 rw [swp_swp,hb] at h2
 injection h2 with h2
 rw [List.getElem?_eq_getElem hj,h2]
def swpL:Loc->Nat->Loc
 | .tmp t,_=>.tmp t
 | .box id off,n=>.box (swp n id) off
theorem Sim.swap {C:Cfg} {D:List Deferred} {B:Nat} {T:Nat->Prop} {S:Store} {M0:List Nat} {b1 b2 k n:Nat} {st st':St} {a:Act} {w:World} (hn:M0.length=n) (h:Sim C D B T S (M0++[b1,b2]) k st a w) (e:Eqv n st st'):Sim C D B T S (M0++[b2,b1]) k st' a w:=by
 have hM:∀ i,(M0++[b2,b1])[i]?=(M0++[b1,b2])[swp n i]?:=fun i=>by
  by_cases c:i < n
  · rw [swp_lt c,List.getElem?_append_left (by omega),List.getElem?_append_left (by omega)]
  · rw [List.getElem?_append_right (by omega)]
    by_cases c1:i=n
    · unfold swp
      rw [if_pos c1,List.getElem?_append_right (by omega),show i - M0.length=0 from by omega,show n+1 - M0.length=1 from by omega]
      rfl
    · unfold swp
      rw [if_neg c1]
      by_cases c2:i=n+1
      · rw [if_pos c2,List.getElem?_append_right (by omega),show i - M0.length=1 from by omega,show n - M0.length=0 from by omega]
        rfl
      · rw [if_neg c2,List.getElem?_append_right (by omega)]
        rw [List.getElem?_eq_none (by simp;omega),List.getElem?_eq_none (by simp;omega)]
 have hmem:∀ g,g ∈ (M0++[b2,b1])↔g ∈ (M0++[b1,b2]):=fun g=>by
  simp only [List.mem_append,List.mem_cons,List.not_mem_nil,or_false]
  constructor
  · rintro (h | h | h)
    · exact .inl h
    · exact .inr (.inr h)
    · exact .inr (.inl h)
  · rintro (h | h | h)
    · exact .inl h
    · exact .inr (.inr h)
    · exact .inr (.inl h)
 have hlow:∀ (id b:Nat),id < n->(M0++[b1,b2])[id]?=some b->(M0++[b2,b1])[id]?=some b:=fun id b hi hb=>by rw [hM,swp_lt hi];exact hb
 have hloc:∀ l ty xs v,LocAt st' (M0++[b2,b1]) a w l (.osl ty xs) v->LocAt st (M0++[b1,b2]) a w (swpL l n) (.osl ty xs) v:=fun l ty xs v hl=>by
  cases l with
  | tmp t=>
   obtain ⟨h1,h2⟩:=hl
   rcases e.env t with ⟨_,h3⟩ | ⟨id,off,_,h3⟩
   · exact ⟨by rw [<- h3];exact h1,h2⟩
   · rw [h3] at h1;cases h1
  | box id off=>
   obtain ⟨cs,b,h1,h2,h3,h4⟩:=hl
   refine ⟨cs,b,?_,h2,by rw [<- hM];exact h3,h4⟩
   unfold boxCells at h1 ⊢
   cases hb:st'.bx[id]? with
   | none=>rw [hb] at h1;cases h1
   | some x=>rw [hb] at h1;rw [e.back hb];exact h1
 have hown:∀ ty xs v,OwnAt C.P S (M0++[b1,b2]) w ty xs v->OwnAt C.P S (M0++[b2,b1]) w ty xs v:=fun ty xs v ⟨i,vals,h1,h2,h3,h4⟩=>
  ⟨i,vals,h1,h2,h3,fun g hg=>⟨fun hm=>(h4 g hg).1 ((hmem g).1 hm),(h4 g hg).2⟩⟩
 refine ⟨h.holds,h.glob,h.gw,h.size,h.dfr,fun t=>?_,?_,fun id bx hb=>?_,?_,fun b hb=>h.mS b ((hmem b).1 hb),fun b hb=>h.mT b ((hmem b).1 hb),h.hB,fun l ty xs v hl=>?_,fun l l' ty ty' xs xs' v v' g hl hl' hg hg'=>?_⟩
 · have hr:=h.env t
   rcases e.env t with ⟨h1,h2⟩ | ⟨id,off,h1,h2⟩
   · rw [h2]
     exact Rep.ofUnder n _ hlow hr h1
   · rw [h1] at hr
     rw [h2]
     generalize a.tmps.getD t undef=vv at hr ⊢
     cases hr with
     | bp _ _ b hb=>exact .bp _ _ b (by rw [hM,swp_swp];exact hb)
 · rw [e.len',List.length_append,hn];rfl
 · have hb2:=e.back hb
   obtain ⟨b,g1,g2⟩:=h.boxes _ _ hb2
   refine ⟨b,by rw [hM];exact g1,?_⟩
   have hu:=(e.bx _ _ hb2).1
   cases g2 with
   | cells ty cs b c hh l h1 hr=>
    refine .cells ty cs b c hh l h1 fun i hi hi'=>Rep.ofUnder n _ hlow (hr i hi hi') ?_
    exact underL_get hu i hi
   | iter s pos b hh=>exact .iter s pos b hh
   | mp es b c k hh l hr=>
    refine .mp es b c k hh l fun i hi hi'=>?_
    have hu2:(es[i].1.under n && es[i].2.under n)=true:=by
     have hu3:(es.all fun p=>p.1.under n && p.2.under n)=true:=hu
     rw [List.all_eq_true] at hu3
     exact hu3 _ (List.getElem_mem hi)
    rw [Bool.and_eq_true] at hu2
    exact ⟨Rep.ofUnder n _ hlow (hr i hi hi').1 hu2.1,Rep.ofUnder n _ hlow (hr i hi hi').2 hu2.2⟩
 · have hp:(M0++[b2,b1]).Perm (M0++[b1,b2]):=List.Perm.append_left _ (List.Perm.swap ..)
   exact hp.nodup_iff.2 h.nodup
 · obtain ⟨g1,g2⟩:=h.own _ _ _ _ (hloc l ty xs v hl)
   exact ⟨hown _ _ _ g1,g2⟩
 · have:=h.apart _ _ _ _ _ _ _ _ g (hloc _ _ _ _ hl) (hloc _ _ _ _ hl') hg hg'
   cases l with
   | tmp t=>
    cases l' with
    | tmp t'=>exact this
    | box id off=>cases this
   | box id off=>
    cases l' with
    | tmp t'=>cases this
    | box id' off'=>
     injection this with i1 i2
     have:id=id':=by rw [<- swp_swp n id,i1,swp_swp]
     rw [this,i2]
end Go.HH
