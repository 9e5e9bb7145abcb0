/-
  Tokens: the tokens of a source, in the program.
-/
import Derived.Test.YtcjncfhadmigjaaLX9
namespace Go.HH
open Go Go.Proofs
set_option maxRecDepth 100000
set_option linter.unusedSimpArgs false
set_option linter.unusedVariables false
theorem ok_lex_Tokens : fnOK CC Try.f10 (Try.f10.body.getD .skip) = true := by kernel_rfl
theorem fat_lex_Tokens : CC.P.funcs[10]? = some Try.f10 := by kernel_rfl
theorem skipL_ge : ∀ (m : Nat) (s : List UInt8) (i : Nat), i ≤ s.length → i ≤ skipL m s i ∧ skipL m s i ≤ s.length
  | 0, _, i, h => ⟨Nat.le_refl _, h⟩
  | m + 1, s, i, h => by
    unfold skipL
    split
    · split
      · have := skipL_ge m s (i + 1) (by omega); omega
      · split
        · have h1 := runL_le (p := nl) (s := s) (i := i) h
          have := skipL_ge m s (runL nl s i) h1.2
          omega
        · omega
    · omega
theorem atL_some {s : List UInt8} {i : Nat} (h : i < s.length) : atL s i = (s[i]).toNat := atL_get (by simp)
theorem runL_gt {p : Nat → Bool} {s : List UInt8} {i : Nat} (h : i < s.length) (hp : p (atL s i) = true) : i < runL p s i := by
  have hx : s[i]? = some s[i] := by simp
  have h2 := runL_step (p := p) hx
  rw [atL_some h] at hp
  rw [hp, if_pos rfl] at h2
  have := runL_le (p := p) (s := s) (i := i + 1) (by omega)
  omega
/-- a token goes on, and not beyond the end -/
theorem oneL_bd {s : List UInt8} {i : Nat} {t : Tk} {k : Nat} (h : i < s.length) (ho : oneL s i = .inl (t, k)) : i < k ∧ k ≤ s.length := by
  unfold oneL at ho
  simp only at ho
  split at ho
  · rename_i hc
    have hp : pt (atL s i) = true := by unfold pt; rw [hc]; rfl
    have h1 := runL_gt h hp
    have h2 := runL_le (p := pt) (s := s) (i := i) (by omega)
    injection ho with ho
    injection ho with _ ho
    omega
  · split at ho
    · rename_i hc
      have h1 := runL_gt h hc
      have h2 := runL_le (p := dg) (s := s) (i := i) (by omega)
      unfold numL at ho
      split at ho
      · rename_i k' hk
        obtain ⟨_, _, hk⟩ := Option.map_eq_some_iff.1 hk
        injection ho with ho
        injection ho with _ ho
        omega
      · cases ho
    · split at ho
      · split at ho
        · rename_i t' k' hk
          unfold strL at hk
          simp only at hk
          split at hk
          · cases hk
          · split at hk
            · cases hk
            · have h1 := endQ_ge (s.length + 1) s (i + 1)
              injection hk with hk
              injection hk with _ hk
              injection ho with ho
              injection ho with _ ho
              omega
        · cases ho
      · split at ho
        · cases ho
        · have := opLen_le h
          injection ho with ho
          injection ho with _ ho
          omega
theorem oneL_err {s : List UInt8} {i : Nat} {c : Int} (ho : oneL s i = .inr c) : c = 2 ∨ c = 4 ∨ c = 12 := by
  unfold oneL at ho
  simp only at ho
  split at ho
  · cases ho
  · split at ho
    · split at ho
      · cases ho
      · injection ho with ho; omega
    · split at ho
      · split at ho
        · cases ho
        · injection ho with ho; omega
      · split at ho
        · injection ho with ho; omega
        · cases ho
theorem op_lex_one_ok (s : List UInt8) (hs : s.length ≤ 900000) (i : Nat) (hi : i < s.length) (t : Tk) (k : Nat) (ho : oneL s i = .inl (t, k)) (bx) : callOp CC (callL CC) 17 [.str s, .int .i64 (i : Int)] bx = some (.ret (.tup [tkV t, .int .i64 k, .int .i64 0]), bx) := by
  obtain ⟨b, v, h, hv⟩ := call_lex_one s hs i hi
  rw [ho] at hv
  simp only at hv
  subst hv
  exact callOp_of rfl (by simp only [SA, Bool.and_true]) h rfl
theorem op_lex_one_err (s : List UInt8) (hs : s.length ≤ 900000) (i : Nat) (hi : i < s.length) (c : Int) (ho : oneL s i = .inr c) : ∃ n : Int, ∀ bx, callOp CC (callL CC) 17 [.str s, .int .i64 (i : Int)] bx = some (.ret (.tup [.agg [.int .i64 n, .str [], .int .i64 (i : Int)], .int .i64 (i : Int), .int .i64 c]), bx) := by
  obtain ⟨b, v, h, hv⟩ := call_lex_one s hs i hi
  rw [ho] at hv
  simp only at hv
  obtain ⟨u, hv⟩ := hv
  subst hv
  exact ⟨u, fun bx => callOp_of rfl (by simp only [SA, Bool.and_true]) h rfl⟩
/-- the tokens of a source from an offset on -/
def toksL : Nat → List UInt8 → Nat → List Tk → List Tk × Nat × Int
  | 0, _, i, _ => ([], i, 0)
  | m + 1, s, i, acc => if i < s.length then
      (if acc.length = 4000 then ([], i, 3) else match oneL s i with
        | .inr c => ([], i, c)
        | .inl (t, k) => toksL m s (skipL (s.length + 1) s k) (acc ++ [t]))
    else (acc ++ [(0, [], s.length)], 0, 0)
def toks (s : List UInt8) : List Tk × Nat × Int := if 20000 < s.length then ([], 0, 3) else toksL (s.length + 1) s (skipL (s.length + 1) s 0) []
noncomputable def ITk : TypeInfo := (Try.prog.info? 32).getD default
def tkVs (l : List Tk) : List PV := l.map tkV
theorem bsTk (a b c : PV) (ha : a.one = true) (hb : b.one = true) (hc : c.one = true) (h : sealNew true 3 (.agg [a, b, c]) = some (.agg [a, b, c])) : buildSliceP CC 23 1 [(0, .agg [a, b, c])] = some (.osl 32 [.agg [a, b, c]]) := by
  have hz : tZero CC 32 = some (.agg [.int .i64 0, .str [], .int .i64 0]) := by kernel_rfl
  have hi : CC.P.info? 32 = some ITk := by kernel_rfl
  have hs : ITk.size = 3 := by kernel_rfl
  have hu : CC.P.underlying 23 = some (.slice 32) := by kernel_rfl
  have ht : tAgg CC 32 = true := by kernel_rfl
  unfold buildSliceP
  simp only [hu, hz, hi, hs, ht, List.foldlM_cons, List.foldlM_nil, h]
  rfl
theorem bsTk' (t : Tk) : buildSliceP CC 23 1 [(0, tkV t)] = some (.osl 32 (tkVs [t])) := bsTk _ _ _ rfl rfl rfl rfl
theorem apTk (st : St) (al : List (Nat × Loc)) (s x : Operand) (d : Option Tmp) : appendOn CC st al s x 23 23 d = match appendAt CC st al 32 s, elemsOf (opd CC st.env x) with
      | some (l, xs), some ys => appK 32 3 32 st al l xs ys d
      | _, _ => none := appendOn_eq (i := ITk) (by kernel_rfl) (by kernel_rfl) (by kernel_rfl) (z := (ITk.zero).getD default) (by kernel_rfl) (by kernel_rfl) (by rw [show ITk.size = 3 from by kernel_rfl]; decide) (by kernel_rfl) (by kernel_rfl)
theorem okTk (t : Tk) : ((tkVs [t]).all fun y => y.cells.length == 3) = true := rfl
end Go.HH
