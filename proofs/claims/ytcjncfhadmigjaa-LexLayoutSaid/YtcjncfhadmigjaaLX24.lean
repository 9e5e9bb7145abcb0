/-
  Tokens: what the laws share: equality of tokens, 'Same', and blanks and tokens with enough fuel.
-/
import Derived.Test.YtcjncfhadmigjaaLX11
import Derived.Test.YtcjncfhadmigjaaLX0
namespace Go.HH
open Go Go.Proofs
set_option maxRecDepth 100000
set_option linter.unusedSimpArgs false
set_option linter.unusedVariables false
def and2 (x : Bool) (y : Option Bool) : Option Bool := match some x with
  | some true => y
  | o => o
theorem fA (id : Nat) : fieldP CC 32 0 (.bp id 0) = some (.bp id 0) ∧ fieldP CC 32 1 (.bp id 0) = some (.bp id 1) ∧ fieldP CC 32 2 (.bp id 0) = some (.bp id 2) := ⟨by kernel_rfl, by kernel_rfl, by kernel_rfl⟩
theorem pureTkL : ∀ l : List Tk, pureL (tkVs l) = true
  | [] => rfl
  | t :: r => by
    have h := pureTkL r
    show ((tkV t).pure && pureL (tkVs r)) = true
    rw [h]; rfl
theorem pureTks (l : List Tk) (a c : Int) : (PV.tup [.sl (tkVs l), .int .i64 a, .int .i64 c]).pure = true := by
  simp only [SA, SE, pureTkL, Bool.and_true]
theorem eqTk (a a' : Int) (b b' : List UInt8) (c c' : Int) : eqP CC 100 32 (.agg [.int .i64 a, .str b, .int .i64 c]) (.agg [.int .i64 a', .str b', .int .i64 c']) = some ((a == a') && (b == b') && (c == c')) := by
  have h : eqP CC 100 32 (.agg [.int .i64 a, .str b, .int .i64 c]) (.agg [.int .i64 a', .str b', .int .i64 c']) = and2 (a == a') (and2 (b == b') (and2 (c == c') (some true))) := by kernel_rfl
  rw [h]
  cases a == a' <;> cases b == b' <;> cases c == c' <;> rfl
theorem eqgTk : CC.P.eqGuardType CC.P.depth 32 = false := by kernel_rfl
theorem ok_R27_Same : fnOK CC Try.f12 (Try.f12.body.getD .skip) = true := by kernel_rfl
theorem fat_R27_Same : CC.P.funcs[12]? = some Try.f12 := by kernel_rfl
theorem eqTk_self (k : Int) (tx : List UInt8) (a : Int) : eqP CC 100 32 (.agg [.int .i64 k, .str tx, .int .i64 a]) (.agg [.int .i64 k, .str tx, .int .i64 a]) = some true := by
  rw [eqTk]
  simp only [beq_self_eq_true, Bool.and_self]
theorem loop_Same (L : Code) (hL : L = fpart Try.f12 [1,1,0,1,0]) (r : List Tk) (hr : r.length ≤ 1000000) : ∀ (m i : Nat) (e : List PV), i + m = r.length → getT e 0 = .sl (tkVs r) → getT e 1 = .sl (tkVs r) → getT e 12 = .int .i64 r.length → getT e 13 = .int .i64 i →
    ∃ e', evL CC L ⟨e, []⟩ = some (.exit 0, ⟨e', []⟩) := by
  intro m
  induction m with
  | zero =>
    intro i e hm h0 h1 h12 h13
    rw [evL_at (fpart Try.f12 [1,1,0,1,0,0]) hL]
    have hi : ¬ ((i : Int) < (r.length : Int)) := by omega
    obtain ⟨ev, eo, so, co, ⟨hev, hco⟩, R⟩ := RULES CC; rw [← hev]
    simp only [fpart, part', Try.f12, Option.getD]
    simp (maxSteps := 5000000) only [SA, SB, SD, R, guardAt, binP, intP, indexAddrP, elemsOf, readCells, lenP, lenAt, resultsP, resultP, oneOr, reduceCtorEq, reduceIte, Nat.reduceEqDiff, Nat.reduceAdd, Nat.zero_add, Nat.reduceMul, Nat.reduceLT, Nat.reduceLeDiff, Int.reduceLT, Int.reduceNeg, Int.reduceLE, appendP, appendAt, letGo, setLoc, locVal, Int.reduceToNat, boxCells, und, TG, SE, h0, h1, h12, h13, hi]
    exact ⟨_, rfl⟩
  | succ m ih =>
    intro i e hm h0 h1 h12 h13
    rw [evL_at (fpart Try.f12 [1,1,0,1,0,0]) hL]
    have hi : ((i : Int) < (r.length : Int)) := by omega
    have hi0 : ¬ ((i : Int) < 0) := by omega
    have hx : r[i]? = some r[i] := by simp
    generalize r[i] = t at *
    obtain ⟨k, tx, a⟩ := t
    have hx' : (tkVs r)[i]? = some (.agg [.int .i64 (k : Int), .str tx, .int .i64 (a : Int)]) := by
      unfold tkVs
      rw [List.getElem?_map, hx]
      rfl
    have hw2 := wrap_i64 (n := (i : Int) + 1) ⟨by omega, by omega⟩
    have hk1 := fun e => ih (i + 1) e (by omega)
    have cast1 : ((i + 1 : Nat) : Int) = (i : Int) + 1 := by omega
    rw [cast1] at hk1
    obtain ⟨tu, htu⟩ := TKs
    have heq := eqTk_self k tx a
    generalize tkVs r = xs at *
    obtain ⟨ev, eo, so, co, ⟨hev, hco⟩, R⟩ := RULES CC; rw [← hev]
    rw [← hev] at hk1
    simp only [fpart, part', Try.f12, Option.getD]
    simp (maxSteps := 5000000) only [SA, SB, SD, R, guardAt, binP, intP, indexAddrP, elemsOf, readCells, lenP, lenAt, resultsP, resultP, oneOr, reduceCtorEq, reduceIte, Nat.reduceEqDiff, Nat.reduceAdd, Nat.zero_add, Nat.reduceMul, Nat.reduceLT, Nat.reduceLeDiff, Int.reduceLT, Int.reduceNeg, Int.reduceLE, appendP, appendAt, letGo, setLoc, locVal, Int.reduceToNat, boxCells, und, TG, SE, htu, eqgTk, heq, h0, h1, h12, h13, hi, hi0, hx', hw2, List.take_succ_cons, List.take_zero]
    refine hk1 _ ?_ ?_ ?_ ?_
    · simp (maxSteps := 5000000) only [SA, SB, SD, R, guardAt, binP, intP, indexAddrP, elemsOf, readCells, lenP, lenAt, resultsP, resultP, oneOr, reduceCtorEq, reduceIte, Nat.reduceEqDiff, Nat.reduceAdd, Nat.zero_add, Nat.reduceMul, Nat.reduceLT, Nat.reduceLeDiff, Int.reduceLT, Int.reduceNeg, Int.reduceLE, appendP, appendAt, letGo, setLoc, locVal, Int.reduceToNat, boxCells, und, h0]
    · simp (maxSteps := 5000000) only [SA, SB, SD, R, guardAt, binP, intP, indexAddrP, elemsOf, readCells, lenP, lenAt, resultsP, resultP, oneOr, reduceCtorEq, reduceIte, Nat.reduceEqDiff, Nat.reduceAdd, Nat.zero_add, Nat.reduceMul, Nat.reduceLT, Nat.reduceLeDiff, Int.reduceLT, Int.reduceNeg, Int.reduceLE, appendP, appendAt, letGo, setLoc, locVal, Int.reduceToNat, boxCells, und, h1]
    · simp (maxSteps := 5000000) only [SA, SB, SD, R, guardAt, binP, intP, indexAddrP, elemsOf, readCells, lenP, lenAt, resultsP, resultP, oneOr, reduceCtorEq, reduceIte, Nat.reduceEqDiff, Nat.reduceAdd, Nat.zero_add, Nat.reduceMul, Nat.reduceLT, Nat.reduceLeDiff, Int.reduceLT, Int.reduceNeg, Int.reduceLE, appendP, appendAt, letGo, setLoc, locVal, Int.reduceToNat, boxCells, und, h12]
    · simp (maxSteps := 5000000) only [SA, SB, SD, R, guardAt, binP, intP, indexAddrP, elemsOf, readCells, lenP, lenAt, resultsP, resultP, oneOr, reduceCtorEq, reduceIte, Nat.reduceEqDiff, Nat.reduceAdd, Nat.zero_add, Nat.reduceMul, Nat.reduceLT, Nat.reduceLeDiff, Int.reduceLT, Int.reduceNeg, Int.reduceLE, appendP, appendAt, letGo, setLoc, locVal, Int.reduceToNat, boxCells, und]
theorem call_Same (r : List Tk) (hr : r.length ≤ 1000000) : callL CC 12 [.sl (tkVs r), .sl (tkVs r)] [] = some (.ret (.bool true), []) := by
  rw [callL_enter (fn := Try.f12) (c := Try.f12.body.getD .skip) rfl rfl fat_R27_Same rfl ok_R27_Same (Nat.le_of_ble_eq_true rfl)]
  have hloop := fun e => loop_Same _ rfl r hr r.length 0 e (by omega)
  have hln : (tkVs r).length = r.length := by unfold tkVs; rw [List.length_map]
  have hbn : ((r.length : Int) != (r.length : Int)) = false := by simp
  generalize tkVs r = xs at *
  obtain ⟨ev, eo, so, co, ⟨hev, hco⟩, R⟩ := RULES CC; rw [← hev]
  rw [← hev] at hloop
  simp only [fpart, part', Try.f12, Option.getD] at hloop ⊢
  simp (maxSteps := 5000000) only [SA, SB, SD, R, guardAt, binP, intP, indexAddrP, elemsOf, readCells, lenP, lenAt, resultsP, resultP, oneOr, reduceCtorEq, reduceIte, Nat.reduceEqDiff, Nat.reduceAdd, Nat.zero_add, Nat.reduceMul, Nat.reduceLT, Nat.reduceLeDiff, Int.reduceLT, Int.reduceNeg, Int.reduceLE, appendP, appendAt, letGo, setLoc, locVal, Int.reduceToNat, boxCells, und, TG, SE, hln, hbn]
  generalize hE : ev _ _ = z
  have hP : ∃ e', z = some (.exit 0, ⟨e', []⟩) := by
    rw [← hE]
    refine hloop _ ?_ ?_ ?_ ?_
    · simp (maxSteps := 5000000) only [SA, SB, SD, R, guardAt, binP, intP, indexAddrP, elemsOf, readCells, lenP, lenAt, resultsP, resultP, oneOr, reduceCtorEq, reduceIte, Nat.reduceEqDiff, Nat.reduceAdd, Nat.zero_add, Nat.reduceMul, Nat.reduceLT, Nat.reduceLeDiff, Int.reduceLT, Int.reduceNeg, Int.reduceLE, appendP, appendAt, letGo, setLoc, locVal, Int.reduceToNat, boxCells, und]
    · simp (maxSteps := 5000000) only [SA, SB, SD, R, guardAt, binP, intP, indexAddrP, elemsOf, readCells, lenP, lenAt, resultsP, resultP, oneOr, reduceCtorEq, reduceIte, Nat.reduceEqDiff, Nat.reduceAdd, Nat.zero_add, Nat.reduceMul, Nat.reduceLT, Nat.reduceLeDiff, Int.reduceLT, Int.reduceNeg, Int.reduceLE, appendP, appendAt, letGo, setLoc, locVal, Int.reduceToNat, boxCells, und]
    · simp (maxSteps := 5000000) only [SA, SB, SD, R, guardAt, binP, intP, indexAddrP, elemsOf, readCells, lenP, lenAt, resultsP, resultP, oneOr, reduceCtorEq, reduceIte, Nat.reduceEqDiff, Nat.reduceAdd, Nat.zero_add, Nat.reduceMul, Nat.reduceLT, Nat.reduceLeDiff, Int.reduceLT, Int.reduceNeg, Int.reduceLE, appendP, appendAt, letGo, setLoc, locVal, Int.reduceToNat, boxCells, und]
    · simp (maxSteps := 5000000) only [SA, SB, SD, R, guardAt, binP, intP, indexAddrP, elemsOf, readCells, lenP, lenAt, resultsP, resultP, oneOr, reduceCtorEq, reduceIte, Nat.reduceEqDiff, Nat.reduceAdd, Nat.zero_add, Nat.reduceMul, Nat.reduceLT, Nat.reduceLeDiff, Int.reduceLT, Int.reduceNeg, Int.reduceLE, appendP, appendAt, letGo, setLoc, locVal, Int.reduceToNat, boxCells, und]; rfl
  obtain ⟨e', he⟩ := hP
  subst he
  simp (maxSteps := 5000000) only [SA, SB, SD, R, guardAt, binP, intP, indexAddrP, elemsOf, readCells, lenP, lenAt, resultsP, resultP, oneOr, reduceCtorEq, reduceIte, Nat.reduceEqDiff, Nat.reduceAdd, Nat.zero_add, Nat.reduceMul, Nat.reduceLT, Nat.reduceLeDiff, Int.reduceLT, Int.reduceNeg, Int.reduceLE, appendP, appendAt, letGo, setLoc, locVal, Int.reduceToNat, boxCells, und, TG, SE]
theorem op_Same (r : List Tk) (hr : r.length ≤ 1000000) (bx) : callOp CC (callL CC) 12 [.sl (tkVs r), .sl (tkVs r)] bx = some (.ret (.bool true), bx) := callOp_of rfl (by simp only [SA, SE, pureTkL, Bool.and_true]) (call_Same r hr) rfl
theorem skipL_fuel (s : List UInt8) : ∀ (m m' i : Nat), i ≤ s.length → s.length - i < m → s.length - i < m' → skipL m s i = skipL m' s i
  | 0, _, _, _, h, _ => by omega
  | m + 1, 0, _, _, _, h => by omega
  | m + 1, m' + 1, i, hi, h, h' => by
    unfold skipL
    split
    · rename_i hl
      split
      · exact skipL_fuel s m m' (i + 1) (by omega) (by omega) (by omega)
      · split
        · rename_i h35
          have hp : nl (atL s i) = true := by rw [h35.1]; rfl
          have h1 := runL_gt hl hp
          have h2 := runL_le (p := nl) (s := s) (i := i) hi
          exact skipL_fuel s m m' (runL nl s i) h2.2 (by omega) (by omega)
        · rfl
    · rfl
def sk (s : List UInt8) (i : Nat) : Nat := skipL (s.length + 1) s i
theorem sk_eq {s : List UInt8} {i : Nat} (hi : i ≤ s.length) : sk s i = if i < s.length then
      (if atL s i = 32 ∨ atL s i = 9 ∨ atL s i = 10 then sk s (i + 1)
       else if atL s i = 35 ∧ dg (atL s (i + 1)) = false then sk s (runL nl s i) else i) else i := by
  have h : sk s i = skipL (s.length + 1 + 1) s i := skipL_fuel s _ _ i hi (by omega) (by omega)
  rw [h]
  rfl
theorem sk_le {s : List UInt8} {i : Nat} (hi : i ≤ s.length) : i ≤ sk s i ∧ sk s i ≤ s.length := skipL_ge _ s i hi
theorem toksL_fuel (s : List UInt8) : ∀ (m m' i : Nat) (acc : List Tk), i ≤ s.length → s.length - i < m → s.length - i < m' → toksL m s i acc = toksL m' s i acc
  | 0, _, _, _, _, h, _ => by omega
  | m + 1, 0, _, _, _, _, h => by omega
  | m + 1, m' + 1, i, acc, hi, h, h' => by
    unfold toksL
    split
    · rename_i hl
      split
      · rfl
      · cases ho : oneL s i with
        | inr c => rfl
        | inl x =>
          obtain ⟨tk, k⟩ := x
          have hbd := oneL_bd hl ho
          have hge := skipL_ge (s.length + 1) s k hbd.2
          exact toksL_fuel s m m' _ _ hge.2 (by omega) (by omega)
    · rfl
def tk (s : List UInt8) (i : Nat) (acc : List Tk) : List Tk × Nat × Int := toksL (s.length + 1) s i acc
theorem tk_eq {s : List UInt8} {i : Nat} (acc : List Tk) (hi : i ≤ s.length) : tk s i acc = if i < s.length then
      (if acc.length = 4000 then ([], i, 3) else match oneL s i with
        | .inr c => ([], i, c)
        | .inl (t, k) => tk s (sk s k) (acc ++ [t]))
    else (acc ++ [(0, [], s.length)], 0, 0) := by
  have h : tk s i acc = toksL (s.length + 1 + 1) s i acc := toksL_fuel s _ _ i acc hi (by omega) (by omega)
  rw [h]
  rfl
end Go.HH
