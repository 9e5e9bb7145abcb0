/-
  The pure values of some types, opened.
-/
import Derived.Test.YthjcaihemgllaaaDoorLaw
import Derived.Test.YthjcaihemgllaaaDoorRun
namespace Go.HH
open Go

theorem list_of {α β : Type} {f : α → β} {Q : α → Prop} : ∀ (xs : List β), (∀ x ∈ xs, ∃ a, x = f a ∧ Q a) → ∃ l : List α, xs = l.map f ∧ ∀ a ∈ l, Q a
  | [], _ => ⟨[], rfl, fun a h => by simp at h⟩
  | x :: xs, h => by
    obtain ⟨l, h1, h2⟩ := list_of xs fun y hy => h y (by simp [hy])
    obtain ⟨a, h3, h4⟩ := h x (by simp)
    exact ⟨a :: l, by simp [h1, h3], fun b hb => by
      rcases List.mem_cons.1 hb with rfl | hb
      · exact h4
      · exact h2 b hb⟩

theorem inI_of {n : Int} (h : (Lit.int .i64 n).wf = true) : inI n := by
  simp only [Lit.wf, Bool.and_eq_true, decide_eq_true_eq] at h
  exact h

section
variable {P : Program} {t e : TypeId}
theorem hasT_int {k : IntKind} {n : Nat} {cs : List PV} (he : P.underlying e = some (.int k)) (h : HasT P n e cs) : ∃ i, cs = [.int k i] ∧ (Lit.int k i).wf = true := by
  cases n with
  | zero => exact h.elim
  | succ n => unfold HasT at h; rw [he] at h; exact h
theorem hasV_int {p : PV} (he : P.underlying e = some (.int .i64)) (h : HasV P e p) : ∃ i, p = .int .i64 i ∧ inI i := by
  obtain ⟨n, cs, rfl, _, h⟩ := h
  obtain ⟨i, rfl, hw⟩ := hasT_int he h
  exact ⟨i, by simp [mkV, aggT, he], inI_of hw⟩
theorem hasV_slice {p : PV} (ht : P.underlying t = some (.slice e)) (h : HasV P t p) : ∃ xs, p = .sl xs ∧ xs.length ≤ maxLen ∧ ∀ x ∈ xs, HasV P e x := by
  obtain ⟨n, cs, rfl, _, h⟩ := h
  cases n with
  | zero => exact h.elim
  | succ n =>
    unfold HasT at h
    rw [ht] at h
    obtain ⟨xs, rfl, h1, h2⟩ := h
    refine ⟨xs, by simp [mkV, aggT, ht], h1, fun x hx => ?_⟩
    obtain ⟨cs, h3, h4, h5⟩ := h2 x hx
    exact ⟨n, cs, h3, fun _ => h4, h5⟩
theorem hasV_ints {p : PV} (ht : P.underlying t = some (.slice e)) (he : P.underlying e = some (.int .i64)) (h : HasV P t p) : ∃ l, p = .sl (ints l) ∧ l.length ≤ maxLen ∧ ∀ x ∈ l, inI x := by
  obtain ⟨xs, rfl, h1, h2⟩ := hasV_slice ht h
  obtain ⟨l, rfl, h3⟩ := list_of xs fun x hx => hasV_int he (h2 x hx)
  exact ⟨l, rfl, by simpa using h1, h3⟩
theorem hasV_arr {p : PV} {k : Nat} (ht : P.underlying t = some (.array k e)) (he : P.underlying e = some (.int .i64)) (hc : P.cellsOf e = 1) (hk : P.cellsOf t = k) (h : HasV P t p) :
    ∃ l, p = .agg (ints l) ∧ l.length = k ∧ ∀ x ∈ l, inI x := by
  obtain ⟨n, cs, rfl, hl, h⟩ := h
  have hl := hl (by simp [aggT, ht])
  cases n with
  | zero => exact h.elim
  | succ n =>
    unfold HasT at h
    rw [ht] at h
    have : ∀ x ∈ cs, ∃ a, x = PV.int .i64 a ∧ inI a := by
      intro x hx
      obtain ⟨i, hi, rfl⟩ := List.getElem_of_mem hx
      have h1 := h i (by omega)
      obtain ⟨a, ha, hw⟩ := hasT_int he h1
      rw [hc, Nat.mul_one, List.drop_eq_getElem_cons hi, List.take_succ_cons] at ha
      exact ⟨a, by injection ha, inI_of hw⟩
    obtain ⟨l, rfl, h3⟩ := list_of cs this
    exact ⟨l, by simp [mkV, aggT, ht, ints], by simp at hl; omega, h3⟩
/-- pairs of numbers -/
def pts (l : List (Int × Int)) : List PV := l.map fun p => .agg [.int .i64 p.1, .int .i64 p.2]
theorem hasV_pts {p : PV} {u : TypeId} (ht : P.underlying t = some (.slice u)) (hu : P.underlying u = some (.array 2 e)) (he : P.underlying e = some (.int .i64)) (hc : P.cellsOf e = 1) (hk : P.cellsOf u = 2) (h : HasV P t p) :
    ∃ l, p = .sl (pts l) ∧ l.length ≤ maxLen ∧ ∀ x ∈ l, inI x.1 ∧ inI x.2 := by
  obtain ⟨xs, rfl, h1, h2⟩ := hasV_slice ht h
  obtain ⟨l, rfl, h3⟩ := list_of (f := fun p : Int × Int => PV.agg [.int .i64 p.1, .int .i64 p.2]) (Q := fun x => inI x.1 ∧ inI x.2) xs fun x hx => by
    obtain ⟨m, rfl, hl, hm⟩ := hasV_arr hu he hc hk (h2 x hx)
    match m, hl with
    | [a, b], _ => exact ⟨(a, b), rfl, hm a (by simp), hm b (by simp)⟩
  exact ⟨l, rfl, by simpa using h1, h3⟩
theorem hasV_bool {p : PV} (he : P.underlying e = some .bool) (h : HasV P e p) : ∃ b, p = .bool b := by
  obtain ⟨n, cs, rfl, _, h⟩ := h
  cases n with
  | zero => exact h.elim
  | succ n =>
    unfold HasT at h
    rw [he] at h
    obtain ⟨b, rfl⟩ := h
    exact ⟨b, by simp [mkV, aggT, he]⟩
theorem hasV_str {p : PV} (he : P.underlying e = some .string) (h : HasV P e p) : ∃ s, p = .str s ∧ s.length ≤ maxLen := by
  obtain ⟨n, cs, rfl, _, h⟩ := h
  cases n with
  | zero => exact h.elim
  | succ n =>
    unfold HasT at h
    rw [he] at h
    obtain ⟨b, rfl, hb⟩ := h
    exact ⟨b, by simp [mkV, aggT, he], hb⟩
theorem hasT_bool {n : Nat} {cs : List PV} (he : P.underlying e = some .bool) (h : HasT P n e cs) : ∃ b, cs = [.bool b] := by
  cases n with
  | zero => exact h.elim
  | succ n => unfold HasT at h; rw [he] at h; exact h
theorem hasT_str {n : Nat} {cs : List PV} (he : P.underlying e = some .string) (h : HasT P n e cs) : ∃ s, cs = [.str s] ∧ s.length ≤ maxLen := by
  cases n with
  | zero => exact h.elim
  | succ n => unfold HasT at h; rw [he] at h; exact h
theorem hasT_i64 {n : Nat} {cs : List PV} (he : P.underlying e = some (.int .i64)) (h : HasT P n e cs) : ∃ i, cs = [.int .i64 i] ∧ inI i := by
  obtain ⟨i, h1, h2⟩ := hasT_int he h
  exact ⟨i, h1, inI_of h2⟩
theorem hasT_slice {n : Nat} {cs : List PV} (ht : P.underlying t = some (.slice e)) (h : HasT P n t cs) : ∃ xs, cs = [.sl xs] ∧ xs.length ≤ maxLen ∧ ∀ x ∈ xs, HasV P e x := by
  cases n with
  | zero => exact h.elim
  | succ n =>
    unfold HasT at h
    rw [ht] at h
    obtain ⟨xs, rfl, h1, h2⟩ := h
    refine ⟨xs, rfl, h1, fun x hx => ?_⟩
    obtain ⟨cs, h3, h4, h5⟩ := h2 x hx
    exact ⟨n, cs, h3, fun _ => h4, h5⟩
theorem hasT_struct {n : Nat} {cs : List PV} {fs : Array Field} {l : List (TypeId × Nat)} (ht : P.underlying t = some (.struct fs)) (hl : fs.toList.map (fun f => (f.type, f.offset)) = l) (h : HasT P n t cs) : ∃ n, ∀ x ∈ l, HasT P n x.1 ((cs.drop x.2).take (P.cellsOf x.1)) := by
  cases n with
  | zero => exact h.elim
  | succ n =>
    unfold HasT at h
    rw [ht] at h
    refine ⟨n, fun x hx => ?_⟩
    rw [← hl] at hx
    obtain ⟨f, hf, rfl⟩ := List.mem_map.1 hx
    exact h f hf
theorem hasV_struct {p : PV} {fs : Array Field} {l : List (TypeId × Nat)} (ht : P.underlying t = some (.struct fs)) (hl : fs.toList.map (fun f => (f.type, f.offset)) = l) (h : HasV P t p) : ∃ n cs, p = .agg cs ∧ cs.length = P.cellsOf t ∧ ∀ x ∈ l, HasT P n x.1 ((cs.drop x.2).take (P.cellsOf x.1)) := by
  obtain ⟨n, cs, rfl, hlen, h⟩ := h
  obtain ⟨m, h⟩ := hasT_struct ht hl h
  exact ⟨m, cs, by simp [mkV, aggT, ht], hlen (by simp [aggT, ht]), h⟩
end
theorem primNone {C : Cfg} (h : ∀ f, C.prim f = none) : PrimSound C := by
  intro f g hg
  rw [h f] at hg
  cases hg
end Go.HH
