/-
  What the law needs, packed: Shape.
-/
import Derived.Test.YtmiilonaehgplaaM27
namespace Go.HH
open Go
theorem list_of {α β:Type} {f:α->β} {Q:α->Prop}:∀ (xs:List β),(∀ x ∈ xs,∃ a,x=f a∧Q a)->∃ l:List α,xs=l.map f∧∀ a ∈ l,Q a
 | [],_=>⟨[],rfl,fun a h=>by simp at h⟩
 | x :: xs,h=>by
  obtain ⟨l,h1,h2⟩:=list_of xs fun y hy=>h y (by simp [hy])
  obtain ⟨a,h3,h4⟩:=h x (by simp)
  exact ⟨a :: l,by simp [h1,h3],fun b hb=>by
   rcases List.mem_cons.1 hb with rfl | hb
   · exact h4
   · exact h2 b hb⟩
theorem inI_of {n:Int} (h:(Lit.int .i64 n).wf=true):inI n:=by
 simp only [Lit.wf,Bool.and_eq_true,decide_eq_true_eq] at h
 exact h
section
variable {P:Program} {t e:TypeId}
theorem hasT_int {k:IntKind} {n:Nat} {cs:List PV} (he:P.underlying e=some (.int k)) (h:HasT P n e cs):∃ i,cs=[.int k i]∧(Lit.int k i).wf=true:=by
 cases n with
 | zero=>exact h.elim
 | succ n=>unfold HasT at h;rw [he] at h;exact h
theorem hasV_int {p:PV} (he:P.underlying e=some (.int .i64)) (h:HasV P e p):∃ i,p=.int .i64 i∧inI i:=by
 obtain ⟨n,cs,rfl,_,h⟩:=h
 obtain ⟨i,rfl,hw⟩:=hasT_int he h
 exact ⟨i,by simp [mkV,aggT,he],inI_of hw⟩
theorem hasV_slice {p:PV} (ht:P.underlying t=some (.slice e)) (h:HasV P t p):∃ xs,p=.sl xs∧xs.length<=maxLen∧∀ x ∈ xs,HasV P e x:=by
 obtain ⟨n,cs,rfl,_,h⟩:=h
 cases n with
 | zero=>exact h.elim
 | succ n=>
  unfold HasT at h
  rw [ht] at h
  obtain ⟨xs,rfl,h1,h2⟩:=h
  refine ⟨xs,by simp [mkV,aggT,ht],h1,fun x hx=>?_⟩
  obtain ⟨cs,h3,h4,h5⟩:=h2 x hx
  exact ⟨n,cs,h3,fun _=>h4,h5⟩
def pts (l:List (Int×Int)):List PV:=l.map fun p=>.agg [.int .i64 p.1,.int .i64 p.2]
theorem hasV_str {p:PV} (he:P.underlying e=some .string) (h:HasV P e p):∃ s,p=.str s∧s.length<=maxLen:=by
 obtain ⟨n,cs,rfl,_,h⟩:=h
 cases n with
 | zero=>exact h.elim
 | succ n=>
  unfold HasT at h
  rw [he] at h
  obtain ⟨b,rfl,hb⟩:=h
  exact ⟨b,by simp [mkV,aggT,he],hb⟩
theorem hasT_bool {n:Nat} {cs:List PV} (he:P.underlying e=some .bool) (h:HasT P n e cs):∃ b,cs=[.bool b]:=by
 cases n with
 | zero=>exact h.elim
 | succ n=>unfold HasT at h;rw [he] at h;exact h
theorem hasT_str {n:Nat} {cs:List PV} (he:P.underlying e=some .string) (h:HasT P n e cs):∃ s,cs=[.str s]∧s.length<=maxLen:=by
 cases n with
 | zero=>exact h.elim
 | succ n=>unfold HasT at h;rw [he] at h;exact h
theorem hasT_i64 {n:Nat} {cs:List PV} (he:P.underlying e=some (.int .i64)) (h:HasT P n e cs):∃ i,cs=[.int .i64 i]∧inI i:=by
 obtain ⟨i,h1,h2⟩:=hasT_int he h
 exact ⟨i,h1,inI_of h2⟩
theorem hasT_slice {n:Nat} {cs:List PV} (ht:P.underlying t=some (.slice e)) (h:HasT P n t cs):∃ xs,cs=[.sl xs]∧xs.length<=maxLen∧∀ x ∈ xs,HasV P e x:=by
 cases n with
 | zero=>exact h.elim
 | succ n=>
  unfold HasT at h
  rw [ht] at h
  obtain ⟨xs,rfl,h1,h2⟩:=h
  refine ⟨xs,rfl,h1,fun x hx=>?_⟩
  obtain ⟨cs,h3,h4,h5⟩:=h2 x hx
  exact ⟨n,cs,h3,fun _=>h4,h5⟩
theorem hasT_struct {n:Nat} {cs:List PV} {fs:Array Field} {l:List (TypeId×Nat)} (ht:P.underlying t=some (.struct fs)) (hl:fs.toList.map (fun f=>(f.type,f.offset))=l) (h:HasT P n t cs):∃ n,∀ x ∈ l,HasT P n x.1 ((cs.drop x.2).take (P.cellsOf x.1)):=by
 cases n with
 | zero=>exact h.elim
 | succ n=>
  unfold HasT at h
  rw [ht] at h
  refine ⟨n,fun x hx=>?_⟩
  rw [<- hl] at hx
  obtain ⟨f,hf,rfl⟩:=List.mem_map.1 hx
  exact h f hf
theorem hasV_struct {p:PV} {fs:Array Field} {l:List (TypeId×Nat)} (ht:P.underlying t=some (.struct fs)) (hl:fs.toList.map (fun f=>(f.type,f.offset))=l) (h:HasV P t p):∃ n cs,p=.agg cs∧cs.length=P.cellsOf t∧∀ x ∈ l,HasT P n x.1 ((cs.drop x.2).take (P.cellsOf x.1)):=by
 obtain ⟨n,cs,rfl,hlen,h⟩:=h
 obtain ⟨m,h⟩:=hasT_struct ht hl h
 exact ⟨m,cs,by simp [mkV,aggT,ht],hlen (by simp [aggT,ht]),h⟩
end
end Go.HH
