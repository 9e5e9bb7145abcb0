/-
  Tokens: operators, and one token, in the program.
-/
import Derived.Test.YtcjncfhadmigjaaLX7
namespace Go.HH
open Go Go.Proofs
set_option maxRecDepth 100000
set_option linter.unusedSimpArgs false
set_option linter.unusedVariables false
theorem ok_lex_one : fnOK CC Try.f17 (Try.f17.body.getD .skip) = true := by kernel_rfl
theorem fat_lex_one : CC.P.funcs[17]? = some Try.f17 := by kernel_rfl
def op2 (c : Nat) : Bool := decide (Lib.indexByte [61, 33, 60, 62] c.toUInt8 ≥ 0)
def op1 (c : Nat) : Bool := decide (Lib.indexByte [35, 43, 45, 42, 40, 41, 123, 125, 91, 93, 44, 59, 58, 46, 60, 62, 61] c.toUInt8 ≥ 0)
/-- the length of an operator -/
def opLen (s : List UInt8) (i : Nat) : Nat := if atL s (i + 1) = 61 ∧ op2 (atL s i) = true then 2 else if op1 (atL s i) = true then 1 else 0
theorem call_lex_operator (s : List UInt8) (hs : s.length ≤ 900000) (i : Nat) (hi : i < s.length) : callL CC 30 [.str s, .int .i64 (i : Int)] [] = some (.ret (.int .i64 ((i + opLen s i : Nat) : Int)), []) := by
  rw [callL_enter (fn := Try.f30) (c := Try.f30.body.getD .skip) rfl rfl fat_lex_operator rfl ok_lex_operator (Nat.le_of_ble_eq_true rfl)]
  have hat := op_lex_at s i
  have hat1 := op_lex_at s (i + 1)
  have h256 := atL_lt s i
  have hcv := conv_r_u8 (atL s i : Int) ⟨by omega, by omega⟩
  have w1 := wrap_i64 (n := (i : Int) + 1) ⟨by omega, by omega⟩
  have w2 := wrap_i64 (n := (i : Int) + 2) ⟨by omega, by omega⟩
  have cast1 : ((i + 1 : Nat) : Int) = (i : Int) + 1 := by omega
  rw [cast1] at hat1
  have h61 : (((atL s (i + 1) : Nat) : Int) == 61) = decide (atL s (i + 1) = 61) := by rw [Bool.eq_iff_iff]; simp; omega
  unfold opLen op1 op2
  generalize atL s i = c at *
  generalize atL s (i + 1) = d at *
  have hx := op_strings_IndexByte
  obtain ⟨ev, eo, so, co, ⟨hev, hco⟩, R⟩ := RULES CC; rw [← hev]
  rw [← hco] at hat hat1 hx
  have hx1 := hx [61, 33, 60, 62] (c : Int)
  have hx2 := hx [35, 43, 45, 42, 40, 41, 123, 125, 91, 93, 44, 59, 58, 46, 60, 62, 61] (c : Int)
  rw [Int.toNat_natCast] at hx1 hx2
  clear hx
  generalize Lib.indexByte [61, 33, 60, 62] c.toUInt8 = x1 at *
  generalize Lib.indexByte [35, 43, 45, 42, 40, 41, 123, 125, 91, 93, 44, 59, 58, 46, 60, 62, 61] c.toUInt8 = x2 at *
  simp only [fpart, part', Try.f30, Option.getD]
  by_cases c1 : d = 61
  · rw [decide_eq_true c1] at h61
    by_cases c2 : x1 ≥ 0
    · rw [if_pos ⟨c1, decide_eq_true c2⟩]
      simp (maxSteps := 5000000) only [SA, SB, SD, R, guardAt, binP, intP, indexAddrP, elemsOf, readCells, lenP, lenAt, resultsP, resultP, oneOr, reduceCtorEq, reduceIte, Nat.reduceEqDiff, Nat.reduceAdd, Nat.zero_add, Nat.reduceMul, Nat.reduceLT, Nat.reduceLeDiff, Int.reduceLT, Int.reduceNeg, Int.reduceLE, appendP, appendAt, letGo, setLoc, locVal, Int.reduceToNat, boxCells, und, TG, SE, hat, hat1, hcv, h61, hx1, hx2, w1, w2, c2]
      rfl
    · rw [if_neg (fun h => c2 (of_decide_eq_true h.2))]
      by_cases c3 : x2 ≥ 0
      · rw [if_pos (decide_eq_true c3)]
        simp (maxSteps := 5000000) only [SA, SB, SD, R, guardAt, binP, intP, indexAddrP, elemsOf, readCells, lenP, lenAt, resultsP, resultP, oneOr, reduceCtorEq, reduceIte, Nat.reduceEqDiff, Nat.reduceAdd, Nat.zero_add, Nat.reduceMul, Nat.reduceLT, Nat.reduceLeDiff, Int.reduceLT, Int.reduceNeg, Int.reduceLE, appendP, appendAt, letGo, setLoc, locVal, Int.reduceToNat, boxCells, und, TG, SE, hat, hat1, hcv, h61, hx1, hx2, w1, w2, c2, c3]
        rfl
      · rw [if_neg (fun h => c3 (of_decide_eq_true h))]
        simp (maxSteps := 5000000) only [SA, SB, SD, R, guardAt, binP, intP, indexAddrP, elemsOf, readCells, lenP, lenAt, resultsP, resultP, oneOr, reduceCtorEq, reduceIte, Nat.reduceEqDiff, Nat.reduceAdd, Nat.zero_add, Nat.reduceMul, Nat.reduceLT, Nat.reduceLeDiff, Int.reduceLT, Int.reduceNeg, Int.reduceLE, appendP, appendAt, letGo, setLoc, locVal, Int.reduceToNat, boxCells, und, TG, SE, hat, hat1, hcv, h61, hx1, hx2, w1, w2, c2, c3]
        rfl
  · rw [decide_eq_false c1] at h61
    rw [if_neg (fun h => c1 h.1)]
    by_cases c3 : x2 ≥ 0
    · rw [if_pos (decide_eq_true c3)]
      simp (maxSteps := 5000000) only [SA, SB, SD, R, guardAt, binP, intP, indexAddrP, elemsOf, readCells, lenP, lenAt, resultsP, resultP, oneOr, reduceCtorEq, reduceIte, Nat.reduceEqDiff, Nat.reduceAdd, Nat.zero_add, Nat.reduceMul, Nat.reduceLT, Nat.reduceLeDiff, Int.reduceLT, Int.reduceNeg, Int.reduceLE, appendP, appendAt, letGo, setLoc, locVal, Int.reduceToNat, boxCells, und, TG, SE, hat, hat1, hcv, h61, hx1, hx2, w1, w2, c3]
      rfl
    · rw [if_neg (fun h => c3 (of_decide_eq_true h))]
      simp (maxSteps := 5000000) only [SA, SB, SD, R, guardAt, binP, intP, indexAddrP, elemsOf, readCells, lenP, lenAt, resultsP, resultP, oneOr, reduceCtorEq, reduceIte, Nat.reduceEqDiff, Nat.reduceAdd, Nat.zero_add, Nat.reduceMul, Nat.reduceLT, Nat.reduceLeDiff, Int.reduceLT, Int.reduceNeg, Int.reduceLE, appendP, appendAt, letGo, setLoc, locVal, Int.reduceToNat, boxCells, und, TG, SE, hat, hat1, hcv, h61, hx1, hx2, w1, w2, c3]
      rfl
theorem op_lex_operator (s : List UInt8) (hs : s.length ≤ 900000) (i : Nat) (hi : i < s.length) (bx) : callOp CC (callL CC) 30 [.str s, .int .i64 (i : Int)] bx = some (.ret (.int .i64 ((i + opLen s i : Nat) : Int)), bx) := callOp_of rfl (by simp only [SA, Bool.and_true]) (call_lex_operator s hs i hi) rfl
/-- a token: kind, text, offset -/
abbrev Tk := Nat × List UInt8 × Nat
def tkV (t : Tk) : PV := .agg [.int .i64 (t.1 : Int), .str t.2.1, .int .i64 (t.2.2 : Int)]
/-- the token at an offset, and the offset behind it; or an error -/
def oneL (s : List UInt8) (i : Nat) : Tk × Nat ⊕ Int :=
  let c := atL s i
  if sm c then .inl ((1, (s.take (runL pt s i)).drop i, i), runL pt s i)
  else if dg c then (match numL s i with
    | some k => .inl ((2, (s.take k).drop i, i), k)
    | none => .inr 2)
  else if c = 34 then (match strL s i with
    | some (t, k) => .inl ((3, t, i), k)
    | none => .inr 4)
  else if opLen s i = 0 then .inr 12
  else .inl ((4, (s.take (i + opLen s i)).drop i, i), i + opLen s i)
theorem opLen_le {s : List UInt8} {i : Nat} (hi : i < s.length) : i + opLen s i ≤ s.length := by
  unfold opLen
  split
  · rename_i h
    have : i + 1 < s.length := by
      rcases Nat.lt_or_ge (i + 1) s.length with h' | h'
      · exact h'
      · exfalso
        have : atL s (i + 1) = 0 := by unfold atL; rw [List.getElem?_eq_none h']
        omega
    omega
  · split <;> omega
theorem TKf : zeroCells CC 32 = some [.int .i64 0, .str [], .int .i64 0] := by kernel_rfl
theorem buildTk (n : Int) : buildP CC 32 [(2, .int .i64 n)] = some (.agg [.int .i64 0, .str [], .int .i64 n]) := by
  have h := (by kernel_rfl : CC.P.underlying 32 = some (.struct ((match Try.prog.underlying 32 with | some (.struct f) => f | _ => #[]))))
  have hz : tZero CC 32 = some (.agg [.int .i64 0, .str [], .int .i64 0]) := by kernel_rfl
  have hp : ((match Try.prog.underlying 32 with | some (.struct f) => f | _ => #[]) : Array Field).toList.mapM (fun f => (tSize CC f.type).map fun s => (f.offset, s)) = some [(0, 1), (1, 1), (2, 1)] := by kernel_rfl
  unfold buildP
  rw [h, hz]
  simp only [hp]
  rfl
end Go.HH
