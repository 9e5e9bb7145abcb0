/-
  Chain and Clone, as the interpreter takes them: by their contracts.
-/
import Derived.Test.YtbbhmdpbojoheaaDoorYD
import Derived.Test.YtbbhmdpbojoheaaDoorCode
import Derived.Lib.SliceRun
namespace Go.HH.W
open Go Go.Proofs Go.HH Go.RowKit Go.Shelf
attribute [local go_sem] Oper.semAt_some
set_option maxRecDepth 100000
set_option maxHeartbeats 4000000
set_option linter.unusedSimpArgs false
set_option linter.unusedVariables false
theorem flat_enC' : ∀ (l : List En) (j k : Nat) (e : En) (u : Value), l[j]? = some e → (enC e)[k]? = some u → (l.flatMap enC)[j * 13 + k]? = some u
  | [], j, k, e, u, h, _ => by simp at h
  | a :: r, 0, k, e, u, h, hu => by
    obtain rfl : a = e := by simpa using h
    have hk : k < 13 := by have := (List.getElem?_eq_some_iff.1 hu).1; rw [enC_length] at this; exact this
    rw [List.flatMap_cons, Nat.zero_mul, Nat.zero_add, List.getElem?_append_left (by rw [enC_length]; exact hk)]
    exact hu
  | a :: r, j + 1, k, e, u, h, hu => by
    rw [List.flatMap_cons, List.getElem?_append_right (by rw [enC_length]; omega), enC_length]
    have := flat_enC' r j k e u (by simpa using h) hu
    rw [← this]
    congr 1
    omega
theorem flatMap_len : ∀ l : List En, (l.flatMap enC).length = l.length * 13
  | [] => rfl
  | e :: r => by rw [List.flatMap_cons, List.length_append, enC_length, flatMap_len r, List.length_cons]; omega
theorem clone_in (l : List En) (hmax : l.length ≤ maxLen) (hby : l.length * 136 ≤ 140737488355328) (a : Option Addr) (len cap : Nat) (w : World) (hL : LogAt w.heap.size w a len cap l) :
    CallsIn Fence.wide 5 Tryd.prog 37 #[.slice a len cap] w fun e w' => ∃ v, e = .returned v ∧ w'.ownsRow 0 34 13 v l.length (l.flatMap enC) ∧ (∀ g, v.ownBlock = some g → w.heap.size ≤ g) ∧ Below w.heap.size w w' := by
  refine callsIn_of_wp Tryd.func37 rfl trivial ?_ rfl
  simp only [Tryd.ntmps37, List.size_toArray, List.length_cons, List.length_nil, Nat.reduceAdd, Nat.reduceSub, Array.replicate_succ, Array.replicate_zero, List.push_toArray, List.append_toArray, List.nil_append, List.cons_append]
  obtain ⟨z, hz0, hz1⟩ := zeroEn
  obtain ⟨rfl, hcap, hL⟩ := hL
  have q22 : ∀ (w : World) (a : Option Addr) (n c n' c' : Nat), (binOp .eql 22 (.slice a n c) (.slice none n' c')).run Tryd.prog w = .ok (.bool a.isNone) w := fun w a n c n' c' => Lib.run_eql_slice_nil w _ _ a n c n' c' uEns
  cases a with
  | none =>
    have hl : l = [] := by
      rcases hL with h | ⟨b, o, h, _⟩
      · exact h
      · cases h
    subst hl
    gi_wp2
    go_ret
    exact ⟨_, rfl, World.ownsRow_nil w 0 34 13, fun g h => (by cases h), Below.refl _ _⟩
  | some ad =>
    obtain ⟨W1, hW1⟩ : ∃ W1, w.alloc (.cells #[] 34) = W1 := ⟨_, rfl⟩
    have hb1 : Below w.heap.size w W1 := by rw [← hW1]; exact (Below.refl _ w).alloc (Nat.le_refl _) _
    have hrow : W1.ownsRow 0 34 13 (.slice (some ⟨w.heap.size, 0, none⟩) 0 0) 0 [] := by
      rw [← hW1]
      exact ⟨rfl, .inr ⟨w.heap.size, 0, #[], rfl, Nat.zero_le _, World.alloc_heap_new w _, Nat.le_refl _, Nat.zero_le _, rfl, rfl⟩⟩
    have hsrc : Src Tryd.prog 13 22 (.slice (some ad) l.length cap) l.length (l.flatMap enC) W1 := by
      refine Src.ofSlice W1 uEns ad l.length cap (l.flatMap enC) (flatMap_len l) (fun j u hu => ?_) (fun u hu => ?_)
      · obtain ⟨j', e, k, h1, h2, h3⟩ := flat_enC l j u hu
        rcases hL with h | ⟨b, o, h, hb, hc⟩
        · subst h; simp at h1
        · injection h with h
          subst h
          have h4 : (⟨b, o, none⟩ : Addr).add j = ⟨b, o + j, none⟩ := by first | rfl | simp [Addr.add_lit] | simp [Addr.add]
          rw [h4, h3]
          exact (hb1.cell (p := ⟨b, o + (j' * 13 + k), none⟩) hb).trans (hc j' e h1 k u h2)
      · obtain ⟨e, _, h⟩ := List.mem_flatMap.1 hu
        exact enC_one e u h
    subst hW1
    have hb1' : 0 + l.length ≤ maxLen := by omega
    have hb2' : (0 + l.length) * 136 ≤ 140737488355328 := by omega
    gi_wp2_with (gi_at_builtin; refine wpListIn_append_src _ rfl _ _ 22 rfl 34 IEn z uEns infoEn hz0 (by rw [sizeEn]; exact hz1) (.slice (some ⟨w.heap.size, 0, none⟩) 0 0) 0 [] rfl (by rw [sizeEn]; exact hrow) _ l.length (l.flatMap enC) rfl (by rw [sizeEn]; exact hsrc) hb1' (by rw [bytesEn]; exact hb2') ?_; intro v' w1 hown' os' tape' out' size' hwh)
    rw [sizeEn, Nat.zero_add, List.nil_append] at hown'
    go_ret
    refine ⟨v', rfl, hown', fun g hg => ?_, ⟨os', tape', out', by simp at size'; omega, fun k hk => ?_⟩⟩
    · rcases hwh with ⟨g2, h1, h2, h3⟩ | ⟨h1, h2⟩
      · rw [h2] at hg
        have e : w.heap.size = g2 := by simpa [Value.ownBlock] using h1
        injection hg with hg
        omega
      · rcases h1 with h1 | h1
        · rw [h1] at hg; cases hg
        · rw [h1] at hg
          injection hg with hg
          simp at hg
          omega
    · have h0 := Below.heap_alloc w (.cells #[] 34) k hk
      rcases hwh with ⟨g2, h1, h2, h3⟩ | ⟨h1, h2⟩
      · have e : w.heap.size = g2 := by simpa [Value.ownBlock] using h1
        exact (h3 k (by omega)).trans h0
      · exact (h2 k (by simp; omega)).trans h0
/-- what a cell of a number or a string is, in the model -/
def scal : PV → Option Value
  | .int k n => some (.int k n)
  | .str s => some (.string ⟨s.toArray⟩)
  | _ => none
theorem rep_scal {S : Store} {M : List Nat} {p : PV} {v u : Value} (h : Rep S M p v) (hs : scal p = some u) : v = u := by
  cases h <;> simp_all [scal]
theorem scal_en (e : En) (k : Nat) (p : PV) (h : (enV e).cells[k]? = some p) : scal p = (enC e)[k]? := by
  have h1 : ((enV e).cells.map scal)[k]? = some (scal p) := by rw [List.getElem?_map, h]; rfl
  have h2 : (enV e).cells.map scal = (enC e).map some := rfl
  rw [h2, List.getElem?_map] at h1
  cases hx : (enC e)[k]? with
  | none => rw [hx] at h1; cases h1
  | some u => rw [hx] at h1; injection h1 with h1; exact h1.symm
theorem log_of_rep {S : Store} {w : World} {l : List En} {v : Value} (hS : ∀ b o v, S b o = some v → w.cell? ⟨b, o, none⟩ = some v) (h : Rep S [] (.sl (ens l)) v) : ∃ a len cap, v = .slice a len cap ∧ LogAt w.heap.size w a len cap l := by
  generalize hxs : ens l = xs at h
  cases h with
  | slE a cap =>
    have hl : l = [] := by cases l with
      | nil => rfl
      | cons e r => cases hxs
    exact ⟨a, 0, cap, rfl, by rw [hl]; rfl, Nat.zero_le _, .inl hl⟩
  | sl xs b o cap f hc hz hs h1 hr =>
    subst hxs
    cases hl : l with
    | nil => exact ⟨_, _, cap, rfl, rfl, Nat.zero_le _, .inl rfl⟩
    | cons e0 r0 =>
      rw [← hl]
      have hcells : ∀ j e, l[j]? = some e → ∀ k u, (enC e)[k]? = some u → w.cell? ⟨b, o + (j * 13 + k), none⟩ = some u := by
        intro j e hj k u hu
        obtain ⟨hjl, hje⟩ := List.getElem?_eq_some_iff.1 hj
        have hk : k < 13 := by have := (List.getElem?_eq_some_iff.1 hu).1; rw [enC_length] at this; exact this
        have hget : (flat (ens l))[j * 13 + k]? = (enV e).cells[k]? := by
          rw [flat_get (xs := ens l) (sz := 13) (fun x hx => by obtain ⟨e, _, rfl⟩ := List.mem_map.1 hx; rfl) (by rw [ens_length]; exact hjl) hk]
          have : (ens l)[j]'(by rw [ens_length]; exact hjl) = enV e := by simp [ens, hje]
          rw [this]
        have hp : ∃ p, (enV e).cells[k]? = some p := ⟨_, List.getElem?_eq_getElem (show k < (enV e).cells.length from hk)⟩
        obtain ⟨p, hp⟩ := hp
        rw [hp] at hget
        obtain ⟨hi, hip⟩ := List.getElem?_eq_some_iff.1 hget
        have hrep := hr _ hi
        rw [hip] at hrep
        have hv := rep_scal hrep ((scal_en e k p hp).trans hu)
        rw [← hv]
        exact hS _ _ _ (hs _ hi)
      have hb : b < w.heap.size := by
        have := hcells 0 e0 (by rw [hl]; rfl) 0 _ rfl
        exact block_lt this
      exact ⟨_, _, cap, rfl, ens_length l, hc, .inr ⟨b, o, rfl, hb, hcells⟩⟩
/-- what comes back, as the interpreter reads it -/
theorem kept_row {S : Store} {w w' : World} {l : List En} {v : Value} (hS : ∀ b o v, S b o = some v → w.cell? ⟨b, o, none⟩ = some v) (hrow : w'.ownsRow 0 34 13 v l.length (l.flatMap enC))
    (hg : ∀ g, v.ownBlock = some g → w.heap.size ≤ g) (hB : Below w.heap.size w w') : ∃ S', Kept S w S' w' ∧ Rep S' [] (.sl (ens l)) v := by
  refine ⟨fun b o => if b < w.heap.size then S b o else w'.cell? ⟨b, o, none⟩, ⟨hB.os, hB.tape, hB.output, hB.size, hB.block, fun b o u hu => ?_, fun k hk o => if_pos hk, fun b o u hu => ?_⟩, ?_⟩
  · have : b < w.heap.size := block_lt (hS b o u hu)
    show (if b < w.heap.size then S b o else w'.cell? ⟨b, o, none⟩) = some u
    rw [if_pos this]; exact hu
  · have hu' : (if b < w.heap.size then S b o else w'.cell? ⟨b, o, none⟩) = some u := hu
    by_cases hb : b < w.heap.size
    · rw [if_pos hb] at hu'
      exact (hB.cell (p := ⟨b, o, none⟩) hb).trans (hS b o u hu')
    · rw [if_neg hb] at hu'; exact hu'
  · rcases hrow.2 with ⟨rfl, h0⟩ | ⟨g, cap, cur, rfl, hbg, hgb, hnc, hcm, hcs, htake⟩
    · have hl : l = [] := List.eq_nil_of_length_eq_zero h0
      subst hl
      exact .slE none 0
    · have hge := hg g rfl
      refine rep_log (n₀ := w'.heap.size) (W := w') [] (fun b o u ⟨off, he⟩ hu => ?_) ⟨rfl, hnc, .inr ⟨g, 0, rfl, (Array.getElem?_eq_some_iff.1 hgb).1, fun j e hj k u hu => ?_⟩⟩
      · injection he with he
        injection he with he
        subst he
        show (if g < w.heap.size then S g o else w'.cell? ⟨g, o, none⟩) = some u
        rw [if_neg (by omega)]; exact hu
      · have h1 := flat_enC' l j k e u hj hu
        have h2 := hrow.cells (g := g) rfl _ _ h1
        have h4 : (⟨g, 0, none⟩ : Addr).add (j * 13 + k) = ⟨g, 0 + (j * 13 + k), none⟩ := by first | rfl | simp [Addr.add_lit] | simp [Addr.add]
        rw [h4] at h2
        exact h2
theorem repL_one {S : Store} {p : PV} {vs : List Value} (h : RepL S [] [p] vs) : ∃ v, vs = [v] ∧ Rep S [] p v := by
  match vs, h with
  | [v], h => exact ⟨v, rfl, h.2 0 (by simp) (by simp)⟩
  | [], h => have := h.1; cases this
  | _ :: _ :: _, h => have := h.1; simp at this
theorem repL_two {S : Store} {p q : PV} {vs : List Value} (h : RepL S [] [p, q] vs) : ∃ v u, vs = [v, u] ∧ Rep S [] p v ∧ Rep S [] q u := by
  match vs, h with
  | [v, u], h => exact ⟨v, u, rfl, h.2 0 (by simp) (by simp), h.2 1 (by simp) (by simp)⟩
  | [], h => have := h.1; cases this
  | [_], h => have := h.1; simp at this
  | _ :: _ :: _ :: _, h => have := h.1; simp at this
end Go.HH.W
namespace Go.HH
open Go Go.Proofs Go.RowKit
theorem prim_Chain : HasBody CC.P 15 ∧ ∀ (args : List PV) (r : PV), chP args = some r → (∀ t xs, r ≠ .osl t xs) ∧
    ∀ (S : Store) (vs : List Value) (w : World), (∀ b o v, S b o = some v → w.cell? ⟨b, o, none⟩ = some v) →
      (∀ g cs, CC.glob g = some cs → Rep S [] (.ip cs) (.pointer (some ⟨g, 0, none⟩))) → (∀ g cs, CC.glob g = some cs → ∃ c e f, w.heap[g]? = some (.cells c e f) ∧ c.size = cs.length) → RepL S [] args vs →
      Calls CC.P 15 vs.toArray w fun e w' => ∃ S', Kept S w S' w' ∧ ∃ v, e = .returned v ∧ Rep S' [] r v := by
  refine ⟨⟨Tryd.f15, _, Tryd.func15, by kernel_rfl, rfl⟩, fun args r hr => ?_⟩
  obtain ⟨l, no, rfl, hb, rfl⟩ := chP_inv hr
  refine ⟨fun t xs h => (by cases h), fun S vs w hS _ _ hrep => ?_⟩
  obtain ⟨v, u, rfl, h0, h1⟩ := W.repL_two hrep
  obtain ⟨a, len, cap, rfl, hL⟩ := W.log_of_rep hS h0
  cases h1 with
  | int =>
    refine (callsIn_wide.1 (W.chain_in l (by simp only [maxLen]; omega) (by omega) no a len cap w hL)).mono ?_
    rintro e w' ⟨v, rfl, hrow, hg, hB⟩
    obtain ⟨S', hk, hv⟩ := W.kept_row hS hrow hg hB
    exact ⟨S', hk, v, rfl, hv⟩
theorem prim_Clone : HasBody CC.P 37 ∧ ∀ (args : List PV) (r : PV), clP args = some r → (∀ t xs, r ≠ .osl t xs) ∧
    ∀ (S : Store) (vs : List Value) (w : World), (∀ b o v, S b o = some v → w.cell? ⟨b, o, none⟩ = some v) →
      (∀ g cs, CC.glob g = some cs → Rep S [] (.ip cs) (.pointer (some ⟨g, 0, none⟩))) → (∀ g cs, CC.glob g = some cs → ∃ c e f, w.heap[g]? = some (.cells c e f) ∧ c.size = cs.length) → RepL S [] args vs →
      Calls CC.P 37 vs.toArray w fun e w' => ∃ S', Kept S w S' w' ∧ ∃ v, e = .returned v ∧ Rep S' [] r v := by
  refine ⟨⟨Tryd.f37, _, Tryd.func37, by kernel_rfl, rfl⟩, fun args r hr => ?_⟩
  obtain ⟨l, rfl, hb, rfl⟩ := clP_inv hr
  refine ⟨fun t xs h => (by cases h), fun S vs w hS _ _ hrep => ?_⟩
  obtain ⟨v, rfl, h0⟩ := W.repL_one hrep
  obtain ⟨a, len, cap, rfl, hL⟩ := W.log_of_rep hS h0
  refine (callsIn_wide.1 (W.clone_in l (by simp only [maxLen]; omega) (by omega) a len cap w hL)).mono ?_
  rintro e w' ⟨v, rfl, hrow, hg, hB⟩
  obtain ⟨S', hk, hv⟩ := W.kept_row hS hrow hg hB
  exact ⟨S', hk, v, rfl, hv⟩
end Go.HH
