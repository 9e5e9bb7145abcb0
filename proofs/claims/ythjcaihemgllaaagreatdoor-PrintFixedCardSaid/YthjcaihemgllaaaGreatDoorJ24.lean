/-
  What the law needs, packed: Pm.
-/
import Derived.Test.YthjcaihemgllaaaGreatDoorJ23
open List renaming getElem?_append_right->Aa0,getElem?_append_left->Aa1,getElem?_eq_getElem->Aa2,getElem?_eq_none->Aa3
namespace Go.HH
open Go Go.RowKit
theorem Eqv.back {n:Nat} {st st':St} (h:Eqv n st st') {id:Nat} {b:PBox} (hb:st'.bx[id]?=some b):st.bx[swp n id]?=some b:=by
 have hi:id < n+2:=by rw [<- h.len'];exact (List.getElem?_eq_some_iff.1 hb).1
 have hj:swp n id < st.bx.length:=by rw [h.len];exact nh hi
 obtain ⟨_,h2⟩:=h.bx _ _ (Aa2 hj);rw [Qr,hb] at h2;injection h2 with h2
 rw [Aa2 hj,h2]
def y6:Loc->Nat->Loc
 | .tmp t,_=>.tmp t
 | .box id off,n=>.box (swp n id) off
theorem Sim.swap {C:Cfg} {D:List Deferred} {B:Nat} {T:Nat->Prop} {S:AI} {M0:List Nat} {b1 b2 k n:Nat} {st st':St} {a:Act} {w:World} (hn:M0.length=n) (h:Sim C D B T S (M0++[b1,b2]) k st a w) (e:Eqv n st st'):Sim C D B T S (M0++[b2,b1]) k st' a w:=by
 have hM:∀ i,(M0++[b2,b1])[i]?=(M0++[b1,b2])[swp n i]?:=fun i=>by
  by_cases c:i < n
  · rw [ZK c,Aa1 (by omega),Aa1 (by omega)]
  · rw [Aa0 (by omega)]
    by_cases c1:i=n
    · unfold swp
      rw [if_pos c1,Aa0 (by omega),show i - M0.length=0 from by omega,show n+1 - M0.length=1 from by omega];rfl
    · unfold swp
      rw [if_neg c1];by_cases c2:i=n+1
      · rw [if_pos c2,Aa0 (by omega),show i - M0.length=1 from by omega,show n - M0.length=0 from by omega]
        rfl
      · rw [if_neg c2,Aa0 (by omega)]
        rw [Aa3 (by simp;omega),Aa3 (by simp;omega)]
 have IP:∀ g,g ∈ (M0++[b2,b1])↔g ∈ (M0++[b1,b2]):=fun g=>by
  simp only [List.mem_append,List.mem_cons,List.not_mem_nil,or_false];constructor
  · rintro (h | h | h)
    · exact .inl h
    · exact .inr (.inr h)
    · exact .inr (.inl h)
  · rintro (h | h | h)
    · exact .inl h
    · exact .inr (.inr h)
    · exact .inr (.inl h)
 have hlow:∀ (id b:Nat),id < n->(M0++[b1,b2])[id]?=some b->(M0++[b2,b1])[id]?=some b:=fun id b hi hb=>by rw [hM,ZK hi];exact hb
 have Gr:∀ l ty xs v,LocAt st' (M0++[b2,b1]) a w l (.osl ty xs) v->LocAt st (M0++[b1,b2]) a w (y6 l n) (.osl ty xs) v:=fun l ty xs v hl=>by
  cases l with
  | tmp t=>
   obtain ⟨h1,h2⟩:=hl;rcases e.env t with ⟨_,h3⟩ | ⟨id,off,_,h3⟩
   · exact ⟨by rw [<- h3];exact h1,h2⟩
   · rw [h3] at h1;cases h1
  | box id off=>
   obtain ⟨cs,b,h1,h2,h3,h4⟩:=hl;refine ⟨cs,b,?_,h2,by rw [<- hM];exact h3,h4⟩;unfold A0 at h1 |-;cases hb:st'.bx[id]? with
   | none=>rw [hb] at h1;cases h1
   | some x=>rw [hb] at h1;rw [e.back hb];exact h1
 have K1:∀ ty xs v,OwnAt C.P S (M0++[b1,b2]) w ty xs v->OwnAt C.P S (M0++[b2,b1]) w ty xs v:=fun ty xs v ⟨i,vals,h1,h2,h3,h4⟩=>
  ⟨i,vals,h1,h2,h3,fun g hg=>⟨fun hm=>(h4 g hg).1 ((IP g).1 hm),(h4 g hg).2⟩⟩
 refine ⟨h.holds,h.glob,h.gw,h.size,h.dfr,fun t=>?_,?_,fun id bx hb=>?_,?_,fun b hb=>h.mS b ((IP b).1 hb),fun b hb=>h.mT b ((IP b).1 hb),h.hB,fun l ty xs v hl=>?_,fun l l' ty ty' xs xs' v v' g hl D4 hg D5=>?_⟩
 · have hr:=h.env t
   rcases e.env t with ⟨h1,h2⟩ | ⟨id,off,h1,h2⟩
   · rw [h2]
     exact Rep.ofUnder n _ hlow hr h1
   · rw [h1] at hr
     rw [h2];generalize a.tmps.getD t undef=vv at hr |-;cases hr with
     | bp _ _ b hb=>exact .bp _ _ b (by rw [hM,Qr];exact hb)
 · rw [e.len',List.length_append,hn];rfl
 · have xP:=e.back hb
   obtain ⟨b,g1,g2⟩:=h.boxes _ _ xP;refine ⟨b,by rw [hM];exact g1,?_⟩;have hu:=(e.bx _ _ xP).1;cases g2 with
   | cells ty cs b c hh l h1 hr=>
    refine .cells ty cs b c hh l h1 fun i hi Dp=>Rep.ofUnder n _ hlow (hr i hi Dp) ?_;exact DO hu i hi
   | iter s pos b hh=>exact .iter s pos b hh
 · have hp:(M0++[b2,b1]).Perm (M0++[b1,b2]):=List.Perm.append_left _ (List.Perm.swap ..)
   exact hp.nodup_iff.2 h.nodup
 · obtain ⟨g1,g2⟩:=h.own _ _ _ _ (Gr l ty xs v hl)
   exact ⟨K1 _ _ _ g1,g2⟩
 · have:=h.apart _ _ _ _ _ _ _ _ g (Gr _ _ _ _ hl) (Gr _ _ _ _ D4) hg D5
   cases l with
   | tmp t=>
    cases l' with
    | tmp t'=>exact this
    | box id off=>cases this
   | box id off=>
    cases l' with
    | tmp t'=>cases this
    | box id' off'=>
     injection this with i1 i2
     have:id=id':=by rw [<- Qr n id,i1,Qr]
     rw [this,i2]
end Go.HH
