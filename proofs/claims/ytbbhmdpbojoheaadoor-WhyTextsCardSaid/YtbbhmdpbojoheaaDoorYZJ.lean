/-
  Joined: YZ, YZ2.
-/
import Derived.Test.YtbbhmdpbojoheaaDoorY4
import Derived.SizedLaws
import Derived.ChangeArms
import Derived.Test.YtbbhmdpbojoheaaDoorY10
import Derived.Test.YtbbhmdpbojoheaaDoorYG
namespace Go.HH
open Go Go.Proofs
set_option maxRecDepth 100000
set_option linter.unusedSimpArgs false
set_option linter.unusedVariables false
open Go Go.Proofs Go.RowKit
theorem bytesE : Tryd.prog.bytesOf 34 = 136 := by kernel_rfl
theorem sm_of {H : Type} {enc : TypeId × Value → H} {W : World} {base : Nat} {spare : Nat → Bool} {held : Bool} {ts : List TypeId} {ds : List (DataW H)} {j : Nat} {d : DataW H} {v : Value} {p : List MemPlace} {l : List En}
    (hsz : (DataW.weightsEach Tryd.prog ts ds).all (· ≤ reachBytes) = true) (ht : ts[j]? = some 22) (hd : ds[j]? = some d) (h0 : DataW.Trod enc Tryd.prog W base spare held 22 v d p) (rp : Rep (storeOf W) [] (.sl (ens l)) v) : smL l := by
  generalize hxs : ens l = xs at rp
  cases rp with
  | slE a cap =>
    have hl : l = [] := by cases l with
      | nil => rfl
      | cons e r => cases hxs
    subst hl
    unfold smL
    simp
  | sl xs b o cap f hc hz hs h1 hr =>
    subst hxs
    obtain ⟨fuel, h⟩ := h0
    have hcv : (Value.slice (some ⟨b, o, none⟩) (ens l).length cap).cells.toList = [.slice (some ⟨b, o, none⟩) (ens l).length cap] := rfl
    rw [hcv] at h
    rcases DataW.trod_slice uEns h with ⟨hc, _⟩ | ⟨a, len, cap', elems, rest, n, _, hc, hx, _, _, _, hel, _⟩
    · cases hc
    · injection hx with hx _
      subst hx
      have hw := sized_slice hsz ht hd uEns
      rw [bytesE, List.length_map, List.length_map] at hw
      injection hc with hc _
      injection hc with _ hlen _
      rw [ens_length] at hlen
      unfold smL
      unfold reachBytes at hw
      have : l.length * 136 ≤ (elems.length + rest.length) * 136 := Nat.mul_le_mul_right _ (by omega)
      omega
open Go Go.Proofs Go.RowKit
theorem field_of {H : Type} {enc : TypeId × Value → H} {P : Program} {W : World} {base : Nat} {spare : Nat → Bool} {held : Bool} {fuel : Nat} {t : TypeId} {cs : List Value} {d : DataW H} {p : List MemPlace} {fs : Array Field} {l : List (TypeId × Nat)}
    (hu : P.underlying t = some (.struct fs)) (hl : fs.toList.map (fun f => (f.type, f.offset)) = l) (h : DataW.trod enc P W base spare held fuel t cs = some (d, p)) (i : Nat) (ty : TypeId) (off : Nat) (hi : l[i]? = some (ty, off)) :
    ∃ n d' p', DataW.trod enc P W base spare held n ty ((cs.drop off).take (P.cellsOf ty)) = some (d', p') ∧ ∀ m ∈ d'.weights P ty, m ∈ d.weights P t := by
  obtain ⟨xs, n, _, hx, _, hlen, hf⟩ := DataW.trod_struct hu h
  injection hx with hx _
  rw [← hl, List.getElem?_map] at hi
  cases hfi : fs.toList[i]? with
  | none => rw [hfi] at hi; cases hi
  | some f =>
    rw [hfi] at hi
    simp only [Option.map_some, Option.some.injEq, Prod.mk.injEq] at hi
    obtain ⟨h1, h2⟩ := hi
    have hfa : fs[i]? = some f := by simpa using hfi
    have hil : i < xs.length := by rw [hlen]; exact (Array.getElem?_eq_some_iff.1 hfa).1
    have ht := hf i f hfa
    rw [List.getElem?_eq_getElem hil, h1, h2] at ht
    refine ⟨n, xs[i].1, xs[i].2, ht, fun m hm => ?_⟩
    subst hx
    have hw := DataW.weights_mem_each (P := P) (ts := fs.toList.map (·.type)) (ds := xs.map (·.1)) (j := i) (t := ty) (d := xs[i].1) (by rw [List.getElem?_map, hfi, ← h1]; rfl) (by rw [List.getElem?_map, List.getElem?_eq_getElem hil]; rfl) m hm
    simp only [DataW.weights, hu]
    exact hw
theorem str_of {H : Type} {enc : TypeId × Value → H} {P : Program} {W : World} {base : Nat} {spare : Nat → Bool} {held : Bool} {fuel : Nat} {t : TypeId} {d : DataW H} {p : List MemPlace} {s : List UInt8}
    (hu : P.underlying t = some .string) (h : DataW.trod enc P W base spare held fuel t [.string ⟨s.toArray⟩] = some (d, p)) : s.length ∈ d.weights P t := by
  obtain ⟨b, hb, hx, _⟩ := DataW.trod_string hu h
  injection hb with hb _
  injection hb with hb
  injection hx with hx _
  subst hx hb
  simp [DataW.weights]
theorem smE_of {H : Type} {enc : TypeId × Value → H} {Wd : World} {base : Nat} {spare : Nat → Bool} {held : Bool} {ts : List TypeId} {ds : List (DataW H)} {j : Nat} {d : DataW H} {v : Value} {p : List MemPlace} {e : En}
    (hsz : (DataW.weightsEach Tryd.prog ts ds).all (· ≤ reachBytes) = true) (ht : ts[j]? = some 34) (hd : ds[j]? = some d) (h0 : DataW.Trod enc Tryd.prog Wd base spare held 34 v d p) (rp : Rep (storeOf Wd) [] (enV e) v) : smE e := by
  have hall : ∀ m ∈ d.weights Tryd.prog 34, m ≤ 140737488351232 := fun m hm => by
    have := List.all_eq_true.1 hsz _ (DataW.weights_mem_each ht hd m hm)
    exact of_decide_eq_true this
  obtain ⟨fuel, h⟩ := h0
  have hv : v.cells.toList = W.enC e := by
    generalize hq : enV e = q at rp
    cases rp with
    | agg cs vs l h1 hr =>
      show vs.toList = W.enC e
      have hcs : (enV e).cells = cs := by rw [hq]; rfl
      have hl : cs.length = 13 := by rw [← hcs]; rfl
      apply List.ext_getElem?
      intro i
      by_cases hi : i < 13
      · have hi1 : i < cs.length := by omega
        have hi2 : i < vs.size := by omega
        have hp : (enV e).cells[i]? = some cs[i] := by rw [hcs]; exact List.getElem?_eq_getElem hi1
        have hs := W.scal_en e i _ hp
        have hu : ∃ u, (W.enC e)[i]? = some u := ⟨_, List.getElem?_eq_getElem (show i < (W.enC e).length from hi)⟩
        obtain ⟨u, hu⟩ := hu
        rw [hu] at hs ⊢
        have := W.rep_scal (hr i hi1 hi2) hs
        rw [Array.getElem?_toList, Array.getElem?_eq_getElem hi2, this]
      · rw [List.getElem?_eq_none (by simp; omega), List.getElem?_eq_none (show (W.enC e).length ≤ i from by rw [W.enC_length]; omega)]
    | _ => cases hq
  rw [hv] at h
  obtain ⟨n3, d3, p3, h3, w3⟩ := field_of uEn fEn h 3 28 3 rfl
  obtain ⟨n5, d5, p5, h5, w5⟩ := field_of uEn fEn h 5 32 9 rfl
  rw [cKy] at h3
  rw [cCs] at h5
  obtain ⟨n31, d31, p31, h31, w31⟩ := field_of uKy fKy h3 1 9 1 rfl
  obtain ⟨n32, d32, p32, h32, w32⟩ := field_of uKy fKy h3 2 9 2 rfl
  obtain ⟨n51, d51, p51, h51, w51⟩ := field_of uCs fCs h5 1 9 1 rfl
  rw [cStr] at h31 h32 h51
  exact ⟨hall _ (w3 _ (w31 _ (str_of Tryd.underlying9 h31))), hall _ (w3 _ (w32 _ (str_of Tryd.underlying9 h32))), hall _ (w5 _ (w51 _ (str_of Tryd.underlying9 h51)))⟩
end Go.HH
