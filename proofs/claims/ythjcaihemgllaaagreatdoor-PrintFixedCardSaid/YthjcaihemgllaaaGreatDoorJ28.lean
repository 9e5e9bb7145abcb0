/-
  What the law needs, packed: Shape.
-/
import Derived.Test.YthjcaihemgllaaaGreatDoorJ27
namespace Go.HH
open Go
section
variable {P:Program} {t e:TypeId}
theorem iH {p:PV} (he:P.underlying e=some .string) (h:vE P e p):∃ s,p=.str s/\s.length<=maxLen:=by
 obtain ⟨n,cs,rfl,_,h⟩:=h;cases n with
 | zero=>exact h.elim
 | succ n=>
  unfold Lj at h;rw [he] at h;obtain ⟨b,rfl,hb⟩:=h;exact ⟨b,by simp [np,XP,he],hb⟩
end
end Go.HH
