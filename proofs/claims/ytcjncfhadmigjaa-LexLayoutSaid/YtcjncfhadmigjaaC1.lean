/-
  strconv.Itoa's contract, as the interpreter takes it; the table that it reads.
-/
import Derived.Test.YtcjncfhadmigjaaC0
import Derived.Test.YtcjncfhadmigjaaCode
import Derived.Test.YtcjncfhadmigjaaLaw
import Derived.Test.YtcjncfhadmigjaaShelf
import Derived.Lib.LaidTab
namespace Go.HH
open Go Go.Proofs Go.RowKit
set_option maxRecDepth 100000
theorem itoaP_inv {args : List PV} {r : PV} (h : itoaP args = some r) : ∃ n, args = [.int .i64 n] ∧ inI n ∧ r = .str (Lib.itoa n) := by
  unfold itoaP at h
  split at h
  · split at h
    · rename_i n _ hn
      injection h with h
      exact ⟨_, rfl, hn, h.symm⟩
    · cases h
  · cases h
def PrimOK (f : FuncId) (g : List PV → Option PV) : Prop := HasBody CC.P f ∧ ∀ (args : List PV) (r : PV), g args = some r → (∀ t xs, r ≠ .osl t xs) ∧
    ∀ (S : Store) (vs : List Value) (w : World), (∀ b o v, S b o = some v → w.cell? ⟨b, o, none⟩ = some v) →
      (∀ g cs, CC.glob g = some cs → Rep S [] (.ip cs) (.pointer (some ⟨g, 0, none⟩))) → (∀ g cs, CC.glob g = some cs → ∃ c e f, w.heap[g]? = some (.cells c e f) ∧ c.size = cs.length) → RepL S [] args vs →
      Calls CC.P f vs.toArray w fun e w' => ∃ S', Kept S w S' w' ∧ ∃ v, e = .returned v ∧ Rep S' [] r v
theorem kept_same {S : Store} {w : World} (hS : ∀ b o v, S b o = some v → w.cell? ⟨b, o, none⟩ = some v) : Kept S w S w := ⟨rfl, rfl, rfl, Nat.le_refl _, fun _ _ => rfl, Store.le.refl _, fun _ _ _ => rfl, hS⟩
theorem repL_one {S : Store} {p : PV} {vs : List Value} (h : RepL S [] [p] vs) : ∃ v, vs = [v] ∧ Rep S [] p v := by
  match vs, h with
  | [v], h => exact ⟨v, rfl, h.2 0 (by simp) (by simp)⟩
  | [], h => have := h.1; cases this
  | _ :: _ :: _, h => have := h.1; simp at this
theorem repL_two {S : Store} {p q : PV} {vs : List Value} (h : RepL S [] [p, q] vs) : ∃ v u, vs = [v, u] ∧ Rep S [] p v ∧ Rep S [] q u := by
  match vs, h with
  | [v, u], h => exact ⟨v, u, rfl, h.2 0 (by simp) (by simp), h.2 1 (by simp) (by simp)⟩
  | [], h => have := h.1; cases this
  | [_], h => have := h.1; simp at this
  | _ :: _ :: _ :: _, h => have := h.1; simp at this
theorem ixbP_inv {args : List PV} {r : PV} (h : ixbP args = some r) : ∃ s c, args = [.str s, .int .u8 c] ∧ r = .int .i64 (Lib.indexByte s c.toNat.toUInt8) := by
  unfold ixbP at h
  split at h
  · injection h with h
    exact ⟨_, _, rfl, h.symm⟩
  · cases h
theorem prim_IndexByte : PrimOK 42 ixbP := by
  refine ⟨⟨Try.f42, _, Try.func42, by kernel_rfl, rfl⟩, fun args r hr => ?_⟩
  obtain ⟨s, c, rfl, rfl⟩ := ixbP_inv hr
  refine ⟨fun t xs h => (by cases h), fun S vs w hS hgl hgw hrep => ?_⟩
  obtain ⟨v, u, rfl, h0, h1⟩ := repL_two hrep
  cases h0 with
  | str =>
    cases h1 with
    | int =>
      refine (Try.strings_IndexByte ⟨s.toArray⟩ c w).mono ?_
      rintro e w' ⟨rfl, rfl⟩
      exact ⟨S, kept_same hS, _, rfl, .int _ _⟩
theorem cntP_inv {args : List PV} {r : PV} (h : cntP args = some r) : ∃ s c, args = [.str s, .str [c]] ∧ r = .int .i64 (Lib.countByte s c) := by
  unfold cntP at h
  split at h
  · injection h with h
    exact ⟨_, _, rfl, h.symm⟩
  · cases h
theorem prim_Count : PrimOK 20 cntP := by
  refine ⟨⟨Try.f20, _, Try.func20, by kernel_rfl, rfl⟩, fun args r hr => ?_⟩
  obtain ⟨s, c, rfl, rfl⟩ := cntP_inv hr
  refine ⟨fun t xs h => (by cases h), fun S vs w hS hgl hgw hrep => ?_⟩
  obtain ⟨v, u, rfl, h0, h1⟩ := repL_two hrep
  cases h0 with
  | str =>
    cases h1 with
    | str =>
      refine (Try.strings_Count_one ⟨s.toArray⟩ c w).mono ?_
      rintro e w' ⟨rfl, rfl⟩
      exact ⟨S, kept_same hS, _, rfl, .int _ _⟩
theorem primSound : PrimSound CC := by
  intro f g hg
  show PrimOK f g
  have hg' : primCC f = some g := hg
  unfold primCC at hg'
  split at hg'
  · rename_i h
    subst h
    injection hg' with hg'
    subst hg'
    exact prim_IndexByte
  split at hg'
  · rename_i h
    subst h
    injection hg' with hg'
    subst hg'
    exact prim_Count
  cases hg'
end Go.HH
