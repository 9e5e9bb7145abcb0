/-
  Values: as pure values, equal.
-/
import Derived.Test.YthjcaihemgllaaaDoorST
import Derived.Test.YthjcaihemgllaaaDoorShape
namespace Go.HH
open Go Go.Proofs
set_option maxRecDepth 100000
set_option linter.unusedSimpArgs false
set_option linter.unusedVariables false
/-- a value: kind, number, text -/
abbrev Vl := Int × Int × List UInt8
def vlV (v : Vl) : PV := .agg [.int .i64 v.1, .int .i64 v.2.1, .str v.2.2]
def okVl (v : Vl) : Prop := inI v.1 ∧ inI v.2.1 ∧ v.2.2.length ≤ maxLen
theorem hasV_val {p : PV} (h : HasV Tryd.prog 24 p) : ∃ v : Vl, p = vlV v ∧ okVl v := by
  have ht : Tryd.prog.underlying 24 = some (.struct ((match Tryd.prog.underlying 24 with | some (.struct f) => f | _ => #[]))) := by kernel_rfl
  have hl : ((match Tryd.prog.underlying 24 with | some (.struct f) => f | _ => #[]) : Array Field).toList.map (fun f => (f.type, f.offset)) = [(3, 0), (3, 1), (9, 2)] := by kernel_rfl
  have c0 : Tryd.prog.cellsOf 24 = 3 := by kernel_rfl
  have c1 : Tryd.prog.cellsOf 3 = 1 := by kernel_rfl
  have c2 : Tryd.prog.cellsOf 9 = 1 := by kernel_rfl
  obtain ⟨n, cs, rfl, hlen, hf⟩ := hasV_struct ht hl h
  rw [c0] at hlen
  match cs, hlen with
  | [a, b, c], _ =>
    have f0 := hf (3, 0) (by simp)
    have f1 := hf (3, 1) (by simp)
    have f2 := hf (9, 2) (by simp)
    simp only [c1, c2] at f0 f1 f2
    obtain ⟨k, e0, h0⟩ := hasT_i64 (P := Tryd.prog) Tryd.underlying3 f0
    obtain ⟨m, e1, h1⟩ := hasT_i64 (P := Tryd.prog) Tryd.underlying3 f1
    obtain ⟨s, e2, h2⟩ := hasT_str (P := Tryd.prog) Tryd.underlying9 f2
    injection e0 with e0
    injection e1 with e1
    injection e2 with e2
    subst e0 e1 e2
    exact ⟨(k, m, s), rfl, h0, h1, h2⟩
theorem VLs : ∃ f, CC.P.underlying 24 = some (.struct f) := ⟨(match Tryd.prog.underlying 24 with | some (.struct f) => f | _ => #[]), by kernel_rfl⟩
def and2 (x : Bool) (y : Option Bool) : Option Bool := match some x with
  | some true => y
  | o => o
def eqVl (v w : Vl) : Bool := (v.1 == w.1) && (v.2.1 == w.2.1) && (v.2.2 == w.2.2)
theorem eqVP (a a' b b' : Int) (c c' : List UInt8) : eqP CC 100 24 (.agg [.int .i64 a, .int .i64 b, .str c]) (.agg [.int .i64 a', .int .i64 b', .str c']) = some ((a == a') && (b == b') && (c == c')) := by
  have h : eqP CC 100 24 (.agg [.int .i64 a, .int .i64 b, .str c]) (.agg [.int .i64 a', .int .i64 b', .str c']) = and2 (a == a') (and2 (b == b') (and2 (c == c') (some true))) := by kernel_rfl
  rw [h]
  cases a == a' <;> cases b == b' <;> cases c == c' <;> rfl
theorem eqgV : CC.P.eqGuardType CC.P.depth 24 = false := by kernel_rfl
end Go.HH
