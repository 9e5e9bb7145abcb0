/-
  strconv.Itoa's contract, as the interpreter takes it; the table that it reads.
-/
import Derived.Test.YthjcaihemgllaaaDoorC0
import Derived.Test.YthjcaihemgllaaaDoorCode
import Derived.Test.YthjcaihemgllaaaDoorLaw
import Derived.Test.YthjcaihemgllaaaDoorShelf
import Derived.Lib.LaidTab
namespace Go.HH
open Go Go.Proofs Go.RowKit
open Go.Sort
set_option maxRecDepth 100000
theorem gPow : Tryd.prog.globalNamed "internal/strconv.uint64pow10" = some 0 := by kernel_rfl
theorem pow10_rep {S : Store} {w : World} (h : Rep S [] (.ip pow10P) (.pointer (some ⟨0, 0, none⟩))) (hS : ∀ b o v, S b o = some v → w.cell? ⟨b, o, none⟩ = some v) :
    ∀ i z, Lib.pow10Tab[i]? = some z → w.cell? ⟨0, i, none⟩ = some (.int .u64 z) := by
  intro i z hi
  cases h with
  | ip _ _ _ f hs _ hr =>
    have hl : i < pow10P.length := by
      have := (List.getElem?_eq_some_iff.1 hi).1
      simpa [pow10P] using this
    have h1 := hs i hl
    have h2 := hr i hl
    have h3 : pow10P[i] = .int .u64 z := by
      have hlt := (List.getElem?_eq_some_iff.1 hi).1
      have : Lib.pow10Tab[i] = z := (List.getElem?_eq_some_iff.1 hi).2
      simp [pow10P, this]
    rw [h3] at h2
    rw [Nat.zero_add] at h1
    have := hS _ _ _ h1
    generalize f i = v at h2 this
    cases h2 with
    | int k n => exact this
theorem tab_of {S : Store} {w : World} (h : Rep S [] (.ip pow10P) (.pointer (some ⟨0, 0, none⟩))) (hS : ∀ b o v, S b o = some v → w.cell? ⟨b, o, none⟩ = some v)
    (hw : ∃ c e f, w.heap[0]? = some (.cells c e f) ∧ c.size = pow10P.length) : Lib.TabIs Tryd.prog w "internal/strconv.uint64pow10" .u64 Lib.pow10Tab := by
  obtain ⟨c, e, f, h1, h2⟩ := hw
  unfold Lib.TabIs World.var?
  rw [gPow]
  simp only [Option.bind_some, h1]
  congr 1
  apply Array.ext
  · rw [h2]; simp [pow10P]
  · intro i hi hi'
    simp at hi'
    have h3 := pow10_rep h hS i (Lib.pow10Tab[i]) (List.getElem?_eq_getElem hi')
    rw [cell_of_heap h1] at h3
    rw [Array.getElem?_eq_getElem hi] at h3
    injection h3 with h3
    rw [h3]
    simp
theorem kept_grow {S : Store} {w : World} (k : Nat) (os : Array Obj) (hS : ∀ b o v, S b o = some v → w.cell? ⟨b, o, none⟩ = some v) : Kept S w S (grow (w.drewN k) os) := by
  have hb : ∀ j, j < w.heap.size → (grow (w.drewN k) os).heap[j]? = w.heap[j]? := fun j hj => by
    show (w.heap ++ os)[j]? = _
    rw [Array.getElem?_append_left hj]
  refine ⟨rfl, rfl, rfl, by show w.heap.size ≤ (w.heap ++ os).size; simp, hb, Store.le.refl _, fun _ _ _ => rfl, fun b o v hv => ?_⟩
  have h1 := hS b o v hv
  rw [World.cell?_of_block (a := ⟨b, o, none⟩) (hb b (block_lt h1))]
  exact h1
theorem itoaP_inv {args : List PV} {r : PV} (h : itoaP args = some r) : ∃ n, args = [.int .i64 n] ∧ inI n ∧ r = .str (Lib.itoa n) := by
  unfold itoaP at h
  split at h
  · split at h
    · rename_i n _ hn
      injection h with h
      exact ⟨_, rfl, hn, h.symm⟩
    · cases h
  · cases h
def PrimOK (f : FuncId) (g : List PV → Option PV) : Prop := HasBody CC.P f ∧ ∀ (args : List PV) (r : PV), g args = some r → (∀ t xs, r ≠ .osl t xs) ∧
    ∀ (S : Store) (vs : List Value) (w : World), (∀ b o v, S b o = some v → w.cell? ⟨b, o, none⟩ = some v) →
      (∀ g cs, CC.glob g = some cs → Rep S [] (.ip cs) (.pointer (some ⟨g, 0, none⟩))) → (∀ g cs, CC.glob g = some cs → ∃ c e f, w.heap[g]? = some (.cells c e f) ∧ c.size = cs.length) → RepL S [] args vs →
      Calls CC.P f vs.toArray w fun e w' => ∃ S', Kept S w S' w' ∧ ∃ v, e = .returned v ∧ Rep S' [] r v
theorem kept_same {S : Store} {w : World} (hS : ∀ b o v, S b o = some v → w.cell? ⟨b, o, none⟩ = some v) : Kept S w S w := ⟨rfl, rfl, rfl, Nat.le_refl _, fun _ _ => rfl, Store.le.refl _, fun _ _ _ => rfl, hS⟩
theorem repL_one {S : Store} {p : PV} {vs : List Value} (h : RepL S [] [p] vs) : ∃ v, vs = [v] ∧ Rep S [] p v := by
  match vs, h with
  | [v], h => exact ⟨v, rfl, h.2 0 (by simp) (by simp)⟩
  | [], h => have := h.1; cases this
  | _ :: _ :: _, h => have := h.1; simp at this
theorem repL_two {S : Store} {p q : PV} {vs : List Value} (h : RepL S [] [p, q] vs) : ∃ v u, vs = [v, u] ∧ Rep S [] p v ∧ Rep S [] q u := by
  match vs, h with
  | [v, u], h => exact ⟨v, u, rfl, h.2 0 (by simp) (by simp), h.2 1 (by simp) (by simp)⟩
  | [], h => have := h.1; cases this
  | [_], h => have := h.1; simp at this
  | _ :: _ :: _ :: _, h => have := h.1; simp at this
theorem prim_Itoa : PrimOK 44 itoaP := by
  refine ⟨⟨Tryd.f44, _, Tryd.func44, by kernel_rfl, rfl⟩, fun args r hr => ?_⟩
  obtain ⟨n, rfl, hn, rfl⟩ := itoaP_inv hr
  refine ⟨fun t xs h => (by cases h), fun S vs w hS hgl hgw hrep => ?_⟩
  obtain ⟨v, rfl, h0⟩ := repL_one hrep
  cases h0 with
  | int =>
    refine (Tryd.strconv_Itoa n hn.1 hn.2 w (tab_of (hgl _ pow10P rfl) hS (hgw _ pow10P rfl))).mono ?_
    rintro e w' ⟨rfl, k, os, rfl⟩
    exact ⟨S, kept_grow k os hS, _, rfl, .str _⟩
theorem ixbP_inv {args : List PV} {r : PV} (h : ixbP args = some r) : ∃ s c, args = [.str s, .int .u8 c] ∧ r = .int .i64 (Lib.indexByte s c.toNat.toUInt8) := by
  unfold ixbP at h
  split at h
  · injection h with h
    exact ⟨_, _, rfl, h.symm⟩
  · cases h
theorem prim_IndexByte : PrimOK 72 ixbP := by
  refine ⟨⟨Tryd.f72, _, Tryd.func72, by kernel_rfl, rfl⟩, fun args r hr => ?_⟩
  obtain ⟨s, c, rfl, rfl⟩ := ixbP_inv hr
  refine ⟨fun t xs h => (by cases h), fun S vs w hS hgl hgw hrep => ?_⟩
  obtain ⟨v, u, rfl, h0, h1⟩ := repL_two hrep
  cases h0 with
  | str =>
    cases h1 with
    | int =>
      refine (Tryd.strings_IndexByte ⟨s.toArray⟩ c w).mono ?_
      rintro e w' ⟨rfl, rfl⟩
      exact ⟨S, kept_same hS, _, rfl, .int _ _⟩
theorem primSound : PrimSound CC := by
  intro f g hg
  show PrimOK f g
  have hg' : primCC f = some g := hg
  unfold primCC at hg'
  split at hg'
  · rename_i h
    subst h
    injection hg' with hg'
    subst hg'
    exact prim_Itoa
  split at hg'
  · rename_i h
    subst h
    injection hg' with hg'
    subst hg'
    exact prim_IndexByte
  cases hg'
theorem glob_of {W : World} {c : Array Value} {e : TypeId} {f : Nat × Nat} (hh : W.heap[0]? = some (.cells c e f)) (hc : c.toList = Lib.pow10Tab.map fun z => Value.int .u64 z) :
    (∃ c e f, W.heap[0]? = some (.cells c e f) ∧ c.size = pow10P.length) ∧ Rep (storeOf W) [] (.ip pow10P) (.pointer (some ⟨0, 0, none⟩)) := by
  have hsz : c.size = pow10P.length := by
    have := congrArg List.length hc
    simpa [pow10P] using this
  have hat : ∀ i, i < pow10P.length → W.cell? ⟨0, i, none⟩ = some (.int .u64 (Lib.pow10Tab.getD i 0)) := fun i hi => by
    rw [cell_of_heap hh]
    have hi' : i < Lib.pow10Tab.length := by simpa [pow10P] using hi
    have : c.toList[i]? = some (Value.int .u64 (Lib.pow10Tab.getD i 0)) := by
      rw [hc, List.getElem?_map, List.getElem?_eq_getElem hi', List.getD_eq_getElem?_getD, List.getElem?_eq_getElem hi']
      rfl
    simpa using this
  refine ⟨⟨c, e, f, hh, hsz⟩, .ip _ _ _ (fun i => .int .u64 (Lib.pow10Tab.getD i 0)) (fun i hi => ?_) (fun i hi => rfl) (fun i hi => ?_)⟩
  · rw [Nat.zero_add]; exact hat i hi
  · have hi' : i < Lib.pow10Tab.length := by simpa [pow10P] using hi
    have h1 : pow10P[i]? = some (.int .u64 (Lib.pow10Tab.getD i 0)) := by
      show (Lib.pow10Tab.map (PV.int .u64))[i]? = _
      rw [List.getElem?_map, List.getD_eq_getElem?_getD, List.getElem?_eq_getElem hi']
      rfl
    rw [List.getElem?_eq_getElem hi] at h1
    injection h1 with h1
    rw [h1]
    exact .int _ _
end Go.HH
