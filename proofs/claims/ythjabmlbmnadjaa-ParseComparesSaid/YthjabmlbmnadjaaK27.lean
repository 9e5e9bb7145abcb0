/-
  What the law needs, packed: Shape.
-/
import Derived.Test.YthjabmlbmnadjaaK26
namespace Go.HH
open Go
section
variable {P:Program} {t e:TypeId}
theorem hasV_str {p:PV} (he:P.underlying e=some .string) (h:HasV P e p):∃ s,p=.str s∧s.length<=maxLen:=by
 obtain ⟨n,cs,rfl,_,h⟩:=h
 cases n with
 | zero=>exact h.elim
 | succ n=>
  unfold HasT at h
  rw [he] at h
  obtain ⟨b,rfl,hb⟩:=h
  exact ⟨b,by simp [mkV,aggT,he],hb⟩
end
end Go.HH
