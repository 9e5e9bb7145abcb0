/-
  What the law needs, packed: Shape.
-/
import Derived.Test.YthjcaihemgllaaaGreatDoorK27
namespace Go.HH
open Go
theorem ML {α β:Type} {f:α->β} {Q:α->Prop}:∀ (xs:List β),(∀ x ∈ xs,∃ a,x=f a/\Q a)->∃ l:List α,xs=l.map f/\∀ a ∈ l,Q a
 | [],_=>⟨[],rfl,fun a h=>by simp at h⟩
 | x :: xs,h=>by
  obtain ⟨l,h1,h2⟩:=ML xs fun y hy=>h y (by simp [hy]);obtain ⟨a,h3,h4⟩:=h x (by simp)
  exact ⟨a :: l,by simp [h1,h3],fun b hb=>by
   rcases List.mem_cons.1 hb with rfl | hb
   · exact h4
   · exact h2 b hb⟩
theorem sg {n:Int} (h:(Lit.int .i64 n).wf=true):GY n:=by
 simp only [Lit.wf,Bool.and_eq_true,decide_eq_true_eq] at h;exact h
section
variable {P:Program} {t e:TypeId}
theorem jg {k:IntKind} {n:Nat} {cs:List PV} (he:P.underlying e=some (.int k)) (h:Ei P n e cs):∃ i,cs=[.int k i]/\(Lit.int k i).wf=true:=by
 cases n with
 | zero=>exact h.elim
 | succ n=>unfold Ei at h;rw [he] at h;exact h
theorem aJ {p:PV} (ht:P.underlying t=some (.slice e)) (h:Km P t p):∃ xs,p=.sl xs/\xs.length<=maxLen/\∀ x ∈ xs,Km P e x:=by
 obtain ⟨n,cs,rfl,_,h⟩:=h;cases n with
 | zero=>exact h.elim
 | succ n=>
  unfold Ei at h;rw [ht] at h;obtain ⟨xs,rfl,h1,h2⟩:=h;refine ⟨xs,by simp [X4,JT,ht],h1,fun x hx=>?_⟩;obtain ⟨cs,h3,h4,h5⟩:=h2 x hx;exact ⟨n,cs,h3,fun _=>h4,h5⟩
theorem Fi {n:Nat} {cs:List PV} (he:P.underlying e=some .string) (h:Ei P n e cs):∃ s,cs=[.str s]/\s.length<=maxLen:=by
 cases n with
 | zero=>exact h.elim
 | succ n=>unfold Ei at h;rw [he] at h;exact h
theorem DV {n:Nat} {cs:List PV} (he:P.underlying e=some (.int .i64)) (h:Ei P n e cs):∃ i,cs=[.int .i64 i]/\GY i:=by
 obtain ⟨i,h1,h2⟩:=jg he h;exact ⟨i,h1,sg h2⟩
theorem Ri {n:Nat} {cs:List PV} (ht:P.underlying t=some (.slice e)) (h:Ei P n t cs):∃ xs,cs=[.sl xs]/\xs.length<=maxLen/\∀ x ∈ xs,Km P e x:=by
 cases n with
 | zero=>exact h.elim
 | succ n=>
  unfold Ei at h;rw [ht] at h;obtain ⟨xs,rfl,h1,h2⟩:=h;refine ⟨xs,rfl,h1,fun x hx=>?_⟩;obtain ⟨cs,h3,h4,h5⟩:=h2 x hx;exact ⟨n,cs,h3,fun _=>h4,h5⟩
theorem Yf {n:Nat} {cs:List PV} {fs:Array Field} {l:List (TypeId×Nat)} (ht:P.underlying t=some (.struct fs)) (hl:fs.toList.map (fun f=>(f.type,f.offset))=l) (h:Ei P n t cs):∃ n,∀ x ∈ l,Ei P n x.1 ((cs.drop x.2).take (P.cellsOf x.1)):=by
 cases n with
 | zero=>exact h.elim
 | succ n=>
  unfold Ei at h;rw [ht] at h;refine ⟨n,fun x hx=>?_⟩;rw [<- hl] at hx;obtain ⟨f,hf,rfl⟩:=List.mem_map.1 hx;exact h f hf
theorem EW {p:PV} {fs:Array Field} {l:List (TypeId×Nat)} (ht:P.underlying t=some (.struct fs)) (hl:fs.toList.map (fun f=>(f.type,f.offset))=l) (h:Km P t p):∃ n cs,p=.agg cs/\cs.length=P.cellsOf t/\∀ x ∈ l,Ei P n x.1 ((cs.drop x.2).take (P.cellsOf x.1)):=by
 obtain ⟨n,cs,rfl,hlen,h⟩:=h;obtain ⟨m,h⟩:=Yf ht hl h;exact ⟨m,cs,by simp [X4,JT,ht],hlen (by simp [JT,ht]),h⟩
end
end Go.HH
