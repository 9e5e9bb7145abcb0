/-
  Logs: the bounds that memory sets.
-/
import Derived.Test.YtbbhmdpbojoheaaDoorY4
import Derived.SizedLaws
import Derived.ChangeArms
namespace Go.HH
open Go Go.Proofs Go.RowKit
set_option maxRecDepth 100000
set_option linter.unusedSimpArgs false
set_option linter.unusedVariables false
theorem bytesE : Tryd.prog.bytesOf 34 = 136 := by kernel_rfl
theorem sm_of {H : Type} {enc : TypeId × Value → H} {W : World} {base : Nat} {spare : Nat → Bool} {held : Bool} {ts : List TypeId} {ds : List (DataW H)} {j : Nat} {d : DataW H} {v : Value} {p : List MemPlace} {l : List En}
    (hsz : (DataW.weightsEach Tryd.prog ts ds).all (· ≤ reachBytes) = true) (ht : ts[j]? = some 22) (hd : ds[j]? = some d) (h0 : DataW.Trod enc Tryd.prog W base spare held 22 v d p) (rp : Rep (storeOf W) [] (.sl (ens l)) v) : smL l := by
  generalize hxs : ens l = xs at rp
  cases rp with
  | slE a cap =>
    have hl : l = [] := by cases l with
      | nil => rfl
      | cons e r => cases hxs
    subst hl
    unfold smL
    simp
  | sl xs b o cap f hc hz hs h1 hr =>
    subst hxs
    obtain ⟨fuel, h⟩ := h0
    have hcv : (Value.slice (some ⟨b, o, none⟩) (ens l).length cap).cells.toList = [.slice (some ⟨b, o, none⟩) (ens l).length cap] := rfl
    rw [hcv] at h
    rcases DataW.trod_slice uEns h with ⟨hc, _⟩ | ⟨a, len, cap', elems, rest, n, _, hc, hx, _, _, _, hel, _⟩
    · cases hc
    · injection hx with hx _
      subst hx
      have hw := sized_slice hsz ht hd uEns
      rw [bytesE, List.length_map, List.length_map] at hw
      injection hc with hc _
      injection hc with _ hlen _
      rw [ens_length] at hlen
      unfold smL
      unfold reachBytes at hw
      have : l.length * 136 ≤ (elems.length + rest.length) * 136 := Nat.mul_le_mul_right _ (by omega)
      omega
end Go.HH
