/-
  Entries of the log: as pure values; what an argument reads as.
-/
import Derived.Test.YtbbhmdpbojoheaaDoorVA
import Derived.Test.YtbbhmdpbojoheaaDoorYE
namespace Go.HH
open Go Go.Proofs
set_option maxRecDepth 100000
set_option linter.unusedSimpArgs false
set_option linter.unusedVariables false
/-- a key: device, cluster, attribute -/
abbrev Ky := Int × List UInt8 × List UInt8
def kyV (k : Ky) : PV := .agg [.int .i64 k.1, .str k.2.1, .str k.2.2]
def okKy (k : Ky) : Prop := inI k.1 ∧ k.2.1.length ≤ maxLen ∧ k.2.2.length ≤ maxLen
theorem uKy : Tryd.prog.underlying 28 = some (.struct ((match Tryd.prog.underlying 28 with | some (.struct f) => f | _ => #[]))) := by kernel_rfl
theorem fKy : ((match Tryd.prog.underlying 28 with | some (.struct f) => f | _ => #[]) : Array Field).toList.map (fun f => (f.type, f.offset)) = [(3, 0), (9, 1), (9, 2)] := by kernel_rfl
theorem cKy : Tryd.prog.cellsOf 28 = 3 := by kernel_rfl
theorem cVl : Tryd.prog.cellsOf 30 = 3 := by kernel_rfl
theorem cInt : Tryd.prog.cellsOf 3 = 1 := by kernel_rfl
theorem cStr : Tryd.prog.cellsOf 9 = 1 := by kernel_rfl
theorem aggKy : aggT Tryd.prog 28 = true := by unfold aggT; rw [uKy]
theorem KYs : ∃ f, CC.P.underlying 28 = some (.struct f) := ⟨_, uKy⟩
theorem hasV_key {p : PV} (h : HasV Tryd.prog 28 p) : ∃ k : Ky, p = kyV k ∧ okKy k := by
  obtain ⟨n, cs, rfl, hlen, hf⟩ := hasV_struct uKy fKy h
  rw [cKy] at hlen
  match cs, hlen with
  | [a, b, c], _ =>
    have f0 := hf (3, 0) (by simp)
    have f1 := hf (9, 1) (by simp)
    have f2 := hf (9, 2) (by simp)
    simp only [cInt, cStr] at f0 f1 f2
    obtain ⟨k, e0, h0⟩ := hasT_i64 (P := Tryd.prog) Tryd.underlying3 f0
    obtain ⟨m, e1, h1⟩ := hasT_str (P := Tryd.prog) Tryd.underlying9 f1
    obtain ⟨s, e2, h2⟩ := hasT_str (P := Tryd.prog) Tryd.underlying9 f2
    injection e0 with e0
    injection e1 with e1
    injection e2 with e2
    subst e0 e1 e2
    exact ⟨(k, m, s), rfl, h0, h1, h2⟩
theorem uCs : Tryd.prog.underlying 32 = some (.struct ((match Tryd.prog.underlying 32 with | some (.struct f) => f | _ => #[]))) := by kernel_rfl
theorem fCs : ((match Tryd.prog.underlying 32 with | some (.struct f) => f | _ => #[]) : Array Field).toList.map (fun f => (f.type, f.offset)) = [(3, 0), (9, 1), (3, 2)] := by kernel_rfl
theorem cCs : Tryd.prog.cellsOf 32 = 3 := by kernel_rfl
theorem aggCs : aggT Tryd.prog 32 = true := by unfold aggT; rw [uCs]
theorem CSs : ∃ f, CC.P.underlying 32 = some (.struct f) := ⟨_, uCs⟩
/-- a cause: kind, name, priority -/
abbrev Cs := Int × List UInt8 × Int
def csV (k : Cs) : PV := .agg [.int .i64 k.1, .str k.2.1, .int .i64 k.2.2]
def okCs (k : Cs) : Prop := inI k.1 ∧ k.2.1.length ≤ maxLen ∧ inI k.2.2
theorem hasV_cause {p : PV} (h : HasV Tryd.prog 32 p) : ∃ k : Cs, p = csV k ∧ okCs k := by
  obtain ⟨n, cs, rfl, hlen, hf⟩ := hasV_struct uCs fCs h
  rw [cCs] at hlen
  match cs, hlen with
  | [a, b, c], _ =>
    have f0 := hf (3, 0) (by simp)
    have f1 := hf (9, 1) (by simp)
    have f2 := hf (3, 2) (by simp)
    simp only [cInt, cStr] at f0 f1 f2
    obtain ⟨k, e0, h0⟩ := hasT_i64 (P := Tryd.prog) Tryd.underlying3 f0
    obtain ⟨m, e1, h1⟩ := hasT_str (P := Tryd.prog) Tryd.underlying9 f1
    obtain ⟨s, e2, h2⟩ := hasT_i64 (P := Tryd.prog) Tryd.underlying3 f2
    injection e0 with e0
    injection e1 with e1
    injection e2 with e2
    subst e0 e1 e2
    exact ⟨(k, m, s), rfl, h0, h1, h2⟩
theorem uEn : Tryd.prog.underlying 34 = some (.struct ((match Tryd.prog.underlying 34 with | some (.struct f) => f | _ => #[]))) := by kernel_rfl
theorem fEn : ((match Tryd.prog.underlying 34 with | some (.struct f) => f | _ => #[]) : Array Field).toList.map (fun f => (f.type, f.offset)) = [(3, 0), (3, 1), (3, 2), (28, 3), (30, 6), (32, 9), (3, 12)] := by kernel_rfl
theorem cEn : Tryd.prog.cellsOf 34 = 13 := by kernel_rfl
theorem aggVl : aggT Tryd.prog 30 = true := by kernel_rfl
theorem aggEn : aggT Tryd.prog 34 = true := by unfold aggT; rw [uEn]
theorem ENs : ∃ f, CC.P.underlying 34 = some (.struct f) := ⟨_, uEn⟩
def okEn (t : En) : Prop := inI t.no ∧ inI t.tick ∧ inI t.kind ∧ okKy t.key ∧ okVl t.val ∧ okCs t.cause ∧ inI t.par
theorem hasV_en {p : PV} (h : HasV Tryd.prog 34 p) : ∃ t : En, p = enV t ∧ okEn t := by
  obtain ⟨n, cs, rfl, hlen, hf⟩ := hasV_struct uEn fEn h
  rw [cEn] at hlen
  match cs, hlen with
  | [a0, a1, a2, a3, a4, a5, a6, a7, a8, a9, a10, a11, a12], _ =>
    have f0 := hf (3, 0) (by simp)
    have f1 := hf (3, 1) (by simp)
    have f2 := hf (3, 2) (by simp)
    have f3 := hf (28, 3) (by simp)
    have f4 := hf (30, 6) (by simp)
    have f5 := hf (32, 9) (by simp)
    have f6 := hf (3, 12) (by simp)
    simp only [cInt, cStr, cKy, cVl, cCs] at f0 f1 f2 f3 f4 f5 f6
    have f3' : HasV Tryd.prog 28 (.agg [a3, a4, a5]) := ⟨n, [a3, a4, a5], by unfold mkV; rw [if_pos aggKy], fun _ => by rw [cKy]; rfl, f3⟩
    have f4' : HasV Tryd.prog 30 (.agg [a6, a7, a8]) := ⟨n, [a6, a7, a8], by unfold mkV; rw [if_pos aggVl], fun _ => by rw [cVl]; rfl, f4⟩
    have f5' : HasV Tryd.prog 32 (.agg [a9, a10, a11]) := ⟨n, [a9, a10, a11], by unfold mkV; rw [if_pos aggCs], fun _ => by rw [cCs]; rfl, f5⟩
    obtain ⟨x0, e0, h0⟩ := hasT_i64 (P := Tryd.prog) Tryd.underlying3 f0
    obtain ⟨x1, e1, h1⟩ := hasT_i64 (P := Tryd.prog) Tryd.underlying3 f1
    obtain ⟨x2, e2, h2⟩ := hasT_i64 (P := Tryd.prog) Tryd.underlying3 f2
    obtain ⟨ky, e3, h3⟩ := hasV_key f3'
    obtain ⟨vl, e4, h4⟩ := hasV_val f4'
    obtain ⟨ca, e5, h5⟩ := hasV_cause f5'
    obtain ⟨x6, e6, h6⟩ := hasT_i64 (P := Tryd.prog) Tryd.underlying3 f6
    unfold kyV at e3
    unfold vlV at e4
    unfold csV at e5
    simp only [List.drop_succ_cons, List.drop_zero, List.take_succ_cons, List.take_zero, List.cons.injEq, and_true, PV.agg.injEq] at e0 e1 e2 e3 e4 e5 e6
    obtain ⟨e31, e32, e33⟩ := e3
    obtain ⟨e41, e42, e43⟩ := e4
    obtain ⟨e51, e52, e53⟩ := e5
    subst e0 e1 e2 e31 e32 e33 e41 e42 e43 e51 e52 e53 e6
    exact ⟨⟨x0, x1, x2, ky, vl, ca, x6⟩, rfl, h0, h1, h2, h3, h4, h5, h6⟩
theorem uEns : Tryd.prog.underlying 22 = some (.slice 34) := by kernel_rfl
theorem cEns : Tryd.prog.cellsOf 22 = 1 := by kernel_rfl
theorem hasV_log {p : PV} (h : HasV Tryd.prog 22 p) : ∃ l : List En, p = .sl (ens l) ∧ l.length ≤ maxLen ∧ ∀ t ∈ l, okEn t := by
  obtain ⟨xs, rfl, h1, h2⟩ := hasV_slice uEns h
  obtain ⟨l, rfl, hl⟩ := list_of (f := enV) (Q := okEn) xs (fun x hx => hasV_en (h2 x hx))
  exact ⟨l, rfl, by simpa using h1, hl⟩
end Go.HH
