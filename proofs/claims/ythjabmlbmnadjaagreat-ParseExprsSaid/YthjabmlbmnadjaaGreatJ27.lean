/-
  What the law needs, packed: Shape.
-/
import Derived.Test.YthjabmlbmnadjaaGreatJ26
namespace Go.HH
open Go
section
variable {P:Program} {t e:TypeId}
theorem Zb {p:PV} (he:P.underlying e=some .string) (h:tb P e p):∃ s,p=.str s/\s.length<=maxLen:=by
 obtain ⟨n,cs,rfl,_,h⟩:=h;cases n with
 | zero=>exact h.elim
 | succ n=>
  unfold Mj at h;rw [he] at h;obtain ⟨b,rfl,hb⟩:=h;exact ⟨b,by simp [mP,YZ,he],hb⟩
end
end Go.HH
