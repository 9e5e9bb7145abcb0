/-
  Joined: E9, E10, E11.
-/
import Derived.Test.YthjcaihemgllaaaGreatDoorPJ2
namespace Go.HH
open Go Go.Proofs
set_option maxRecDepth 100000
set_option linter.unusedSimpArgs false
set_option linter.unusedVariables false
set_option maxHeartbeats 4000000
theorem ok_expr_Same : fnOK CC Tryz.f85 (Tryz.f85.body.getD .skip) = true := by kernel_rfl
theorem fat_expr_Same : CC.P.funcs[85]? = some Tryz.f85 := by kernel_rfl
theorem ok_R28_Same : fnOK CC Tryz.f23 (Tryz.f23.body.getD .skip) = true := by kernel_rfl
theorem fat_R28_Same : CC.P.funcs[23]? = some Tryz.f23 := by kernel_rfl
theorem ok_print_none : fnOK CC Tryz.f62 (Tryz.f62.body.getD .skip) = true := by kernel_rfl
theorem fat_print_none : CC.P.funcs[62]? = some Tryz.f62 := by kernel_rfl
theorem ok_R30_None : fnOK CC Tryz.f67 (Tryz.f67.body.getD .skip) = true := by kernel_rfl
theorem fat_R30_None : CC.P.funcs[67]? = some Tryz.f67 := by kernel_rfl
/-- an expression without kids, built here -/
def leafV (k n m : Int) (nm : List UInt8) (v : Vl) (key : Ky) : PV := .agg [.int .i64 k, .int .i64 n, .int .i64 m, .str nm, .int .i64 v.1, .int .i64 v.2.1, .str v.2.2, .int .i64 key.1, .str key.2.1, .str key.2.2, .sl []]
/-- is an expression that one? -/
def smB (t : Tr) (k n m : Int) (nm : List UInt8) (v : Vl) (key : Ky) : Bool := match t with
  | .mk k' n' m' nm' v' key' kids => (k' == k) && (n' == n) && (m' == m) && (nm' == nm) && eqVl v' v && eqKy key' key && (kids.length == 0)
theorem loop0_expr_Same (L : Code) (hL : L = fpart Tryz.f85 [1,1,0,1,0]) (e : List PV) (bx : List PBox) (h1 : getT e 58 = .int .i64 0) (h2 : getT e 59 = .int .i64 0) : ∃ e' bx', evL CC L ⟨e, bx⟩ = some (.exit 0, ⟨e', bx'⟩) := by
  rw [evL_at (fpart Tryz.f85 [1,1,0,1,0,0]) hL]
  have hlen : True := trivial
  obtain ⟨tu, htu⟩ := VLs
  obtain ⟨tr, htr⟩ := TRs
  obtain ⟨tk, hky⟩ := KYs
  have hi : ¬ ((0 : Int) < 0) := by decide
  obtain ⟨ev, eo, so, co, ⟨hev, hco⟩, R⟩ := RULES CC; rw [← hev]
  simp only [fpart, part', Tryz.f85, Option.getD]
  simp (maxSteps := 5000000) only [SA, SB, SD, R, guardAt, binP, intP, indexAddrP, elemsOf, readCells, lenP, lenAt, resultsP, resultP, oneOr, reduceCtorEq, reduceIte, Nat.reduceEqDiff, Nat.reduceAdd, Nat.zero_add, Nat.reduceMul, Nat.reduceLT, Nat.reduceLeDiff, Int.reduceLT, Int.reduceNeg, Int.reduceLE, appendP, appendAt, letGo, setLoc, locVal, Int.reduceToNat, boxCells, und, TG, SE, SC, List.getElem?_cons_zero, List.getElem?_cons_succ, unP, htu, htr, hky, hlen, eqgV, eqgK, loadR, loadP, lay, List.take_succ_cons, List.take_zero, List.drop_nil, List.filter_nil, List.cons_append, List.length_nil, Int.reduceBEq, Int.reduceBNe, Int.reduceGT, Int.reduceGE, Int.reduceLT, Bool.not_true, Bool.not_false, Bool.not_not, h1, h2, hi]
  exact ⟨_, _, rfl⟩
theorem same_expr_Same (k n m : Int) (nm : List UInt8) (vk vn : Int) (vs : List UInt8) (dv : Int) (cl at_ : List UInt8) (xs : List PV) (k' n' m' : Int) (nm' : List UInt8) (vk' vn' : Int) (vs' : List UInt8) (dv' : Int) (cl' at' : List UInt8) (b1 b2 b3 b4 b5 b6 b7 : Bool)
    (h1 : (k != k') = b1) (h2 : (n != n') = b2) (h3 : (m != m') = b3) (h4 : strP .neq nm nm' = some (.bool b4)) (h5 : eqP CC 100 24 (.agg [.int .i64 vk, .int .i64 vn, .str vs]) (.agg [.int .i64 vk', .int .i64 vn', .str vs']) = some (!b5)) (h6 : eqP CC 100 26 (.agg [.int .i64 dv, .str cl, .str at_]) (.agg [.int .i64 dv', .str cl', .str at']) = some (!b6)) (h7 : ((xs.length : Int) != ((0 : Nat) : Int)) = b7) :
    ∃ bx, callL CC 85 [.agg [.int .i64 k, .int .i64 n, .int .i64 m, .str nm, .int .i64 vk, .int .i64 vn, .str vs, .int .i64 dv, .str cl, .str at_, .sl xs], .agg [.int .i64 k', .int .i64 n', .int .i64 m', .str nm', .int .i64 vk', .int .i64 vn', .str vs', .int .i64 dv', .str cl', .str at', .sl []]] [] = some (.ret (.bool (!(b1 || b2 || b3 || b4 || b5 || b6 || b7))), bx) := by
  have hlen : True := trivial
  obtain ⟨tu, htu⟩ := VLs
  obtain ⟨tr, htr⟩ := TRs
  obtain ⟨tk, hky⟩ := KYs
  have hloop := loop0_expr_Same _ rfl
  rw [callL_enter (fn := Tryz.f85) (c := Tryz.f85.body.getD .skip) rfl rfl fat_expr_Same rfl ok_expr_Same (Nat.le_of_ble_eq_true rfl)]
  cases b1 with
  | true =>
    obtain ⟨ev, eo, so, co, ⟨hev, hco⟩, R⟩ := RULES CC; rw [← hev]
    simp only [fpart, part', Tryz.f85, Option.getD]
    simp (maxSteps := 5000000) only [SA, SB, SD, R, guardAt, binP, intP, indexAddrP, elemsOf, readCells, lenP, lenAt, resultsP, resultP, oneOr, reduceCtorEq, reduceIte, Nat.reduceEqDiff, Nat.reduceAdd, Nat.zero_add, Nat.reduceMul, Nat.reduceLT, Nat.reduceLeDiff, Int.reduceLT, Int.reduceNeg, Int.reduceLE, appendP, appendAt, letGo, setLoc, locVal, Int.reduceToNat, boxCells, und, TG, SE, SC, List.getElem?_cons_zero, List.getElem?_cons_succ, unP, htu, htr, hky, hlen, eqgV, eqgK, loadR, loadP, lay, List.take_succ_cons, List.take_zero, List.drop_nil, List.filter_nil, List.cons_append, List.length_nil, Int.reduceBEq, Int.reduceBNe, Int.reduceGT, Int.reduceGE, Int.reduceLT, Bool.not_true, Bool.not_false, Bool.not_not, h1]
    exact ⟨_, rfl⟩
  | false =>
    cases b2 with
    | true =>
      obtain ⟨ev, eo, so, co, ⟨hev, hco⟩, R⟩ := RULES CC; rw [← hev]
      simp only [fpart, part', Tryz.f85, Option.getD]
      simp (maxSteps := 5000000) only [SA, SB, SD, R, guardAt, binP, intP, indexAddrP, elemsOf, readCells, lenP, lenAt, resultsP, resultP, oneOr, reduceCtorEq, reduceIte, Nat.reduceEqDiff, Nat.reduceAdd, Nat.zero_add, Nat.reduceMul, Nat.reduceLT, Nat.reduceLeDiff, Int.reduceLT, Int.reduceNeg, Int.reduceLE, appendP, appendAt, letGo, setLoc, locVal, Int.reduceToNat, boxCells, und, TG, SE, SC, List.getElem?_cons_zero, List.getElem?_cons_succ, unP, htu, htr, hky, hlen, eqgV, eqgK, loadR, loadP, lay, List.take_succ_cons, List.take_zero, List.drop_nil, List.filter_nil, List.cons_append, List.length_nil, Int.reduceBEq, Int.reduceBNe, Int.reduceGT, Int.reduceGE, Int.reduceLT, Bool.not_true, Bool.not_false, Bool.not_not, h1, h2]
      exact ⟨_, rfl⟩
    | false =>
      cases b3 with
      | true =>
        obtain ⟨ev, eo, so, co, ⟨hev, hco⟩, R⟩ := RULES CC; rw [← hev]
        simp only [fpart, part', Tryz.f85, Option.getD]
        simp (maxSteps := 5000000) only [SA, SB, SD, R, guardAt, binP, intP, indexAddrP, elemsOf, readCells, lenP, lenAt, resultsP, resultP, oneOr, reduceCtorEq, reduceIte, Nat.reduceEqDiff, Nat.reduceAdd, Nat.zero_add, Nat.reduceMul, Nat.reduceLT, Nat.reduceLeDiff, Int.reduceLT, Int.reduceNeg, Int.reduceLE, appendP, appendAt, letGo, setLoc, locVal, Int.reduceToNat, boxCells, und, TG, SE, SC, List.getElem?_cons_zero, List.getElem?_cons_succ, unP, htu, htr, hky, hlen, eqgV, eqgK, loadR, loadP, lay, List.take_succ_cons, List.take_zero, List.drop_nil, List.filter_nil, List.cons_append, List.length_nil, Int.reduceBEq, Int.reduceBNe, Int.reduceGT, Int.reduceGE, Int.reduceLT, Bool.not_true, Bool.not_false, Bool.not_not, h1, h2, h3]
        exact ⟨_, rfl⟩
      | false =>
        cases b4 with
        | true =>
          obtain ⟨ev, eo, so, co, ⟨hev, hco⟩, R⟩ := RULES CC; rw [← hev]
          simp only [fpart, part', Tryz.f85, Option.getD]
          simp (maxSteps := 5000000) only [SA, SB, SD, R, guardAt, binP, intP, indexAddrP, elemsOf, readCells, lenP, lenAt, resultsP, resultP, oneOr, reduceCtorEq, reduceIte, Nat.reduceEqDiff, Nat.reduceAdd, Nat.zero_add, Nat.reduceMul, Nat.reduceLT, Nat.reduceLeDiff, Int.reduceLT, Int.reduceNeg, Int.reduceLE, appendP, appendAt, letGo, setLoc, locVal, Int.reduceToNat, boxCells, und, TG, SE, SC, List.getElem?_cons_zero, List.getElem?_cons_succ, unP, htu, htr, hky, hlen, eqgV, eqgK, loadR, loadP, lay, List.take_succ_cons, List.take_zero, List.drop_nil, List.filter_nil, List.cons_append, List.length_nil, Int.reduceBEq, Int.reduceBNe, Int.reduceGT, Int.reduceGE, Int.reduceLT, Bool.not_true, Bool.not_false, Bool.not_not, h1, h2, h3, h4]
          exact ⟨_, rfl⟩
        | false =>
          cases b5 with
          | true =>
            obtain ⟨ev, eo, so, co, ⟨hev, hco⟩, R⟩ := RULES CC; rw [← hev]
            simp only [fpart, part', Tryz.f85, Option.getD]
            simp (maxSteps := 5000000) only [SA, SB, SD, R, guardAt, binP, intP, indexAddrP, elemsOf, readCells, lenP, lenAt, resultsP, resultP, oneOr, reduceCtorEq, reduceIte, Nat.reduceEqDiff, Nat.reduceAdd, Nat.zero_add, Nat.reduceMul, Nat.reduceLT, Nat.reduceLeDiff, Int.reduceLT, Int.reduceNeg, Int.reduceLE, appendP, appendAt, letGo, setLoc, locVal, Int.reduceToNat, boxCells, und, TG, SE, SC, List.getElem?_cons_zero, List.getElem?_cons_succ, unP, htu, htr, hky, hlen, eqgV, eqgK, loadR, loadP, lay, List.take_succ_cons, List.take_zero, List.drop_nil, List.filter_nil, List.cons_append, List.length_nil, Int.reduceBEq, Int.reduceBNe, Int.reduceGT, Int.reduceGE, Int.reduceLT, Bool.not_true, Bool.not_false, Bool.not_not, h1, h2, h3, h4, h5]
            exact ⟨_, rfl⟩
          | false =>
            cases b6 with
            | true =>
              obtain ⟨ev, eo, so, co, ⟨hev, hco⟩, R⟩ := RULES CC; rw [← hev]
              simp only [fpart, part', Tryz.f85, Option.getD]
              simp (maxSteps := 5000000) only [SA, SB, SD, R, guardAt, binP, intP, indexAddrP, elemsOf, readCells, lenP, lenAt, resultsP, resultP, oneOr, reduceCtorEq, reduceIte, Nat.reduceEqDiff, Nat.reduceAdd, Nat.zero_add, Nat.reduceMul, Nat.reduceLT, Nat.reduceLeDiff, Int.reduceLT, Int.reduceNeg, Int.reduceLE, appendP, appendAt, letGo, setLoc, locVal, Int.reduceToNat, boxCells, und, TG, SE, SC, List.getElem?_cons_zero, List.getElem?_cons_succ, unP, htu, htr, hky, hlen, eqgV, eqgK, loadR, loadP, lay, List.take_succ_cons, List.take_zero, List.drop_nil, List.filter_nil, List.cons_append, List.length_nil, Int.reduceBEq, Int.reduceBNe, Int.reduceGT, Int.reduceGE, Int.reduceLT, Bool.not_true, Bool.not_false, Bool.not_not, h1, h2, h3, h4, h5, h6]
              exact ⟨_, rfl⟩
            | false =>
              cases b7 with
              | true =>
                obtain ⟨ev, eo, so, co, ⟨hev, hco⟩, R⟩ := RULES CC; rw [← hev]
                simp only [fpart, part', Tryz.f85, Option.getD]
                simp (maxSteps := 5000000) only [SA, SB, SD, R, guardAt, binP, intP, indexAddrP, elemsOf, readCells, lenP, lenAt, resultsP, resultP, oneOr, reduceCtorEq, reduceIte, Nat.reduceEqDiff, Nat.reduceAdd, Nat.zero_add, Nat.reduceMul, Nat.reduceLT, Nat.reduceLeDiff, Int.reduceLT, Int.reduceNeg, Int.reduceLE, appendP, appendAt, letGo, setLoc, locVal, Int.reduceToNat, boxCells, und, TG, SE, SC, List.getElem?_cons_zero, List.getElem?_cons_succ, unP, htu, htr, hky, hlen, eqgV, eqgK, loadR, loadP, lay, List.take_succ_cons, List.take_zero, List.drop_nil, List.filter_nil, List.cons_append, List.length_nil, Int.reduceBEq, Int.reduceBNe, Int.reduceGT, Int.reduceGE, Int.reduceLT, Bool.not_true, Bool.not_false, Bool.not_not, h1, h2, h3, h4, h5, h6, h7]
                exact ⟨_, rfl⟩
              | false =>
                have hx0 : (xs.length : Int) = 0 := by simpa using h7
                obtain ⟨ev, eo, so, co, ⟨hev, hco⟩, R⟩ := RULES CC; rw [← hev]
                rw [← hev] at hloop
                simp only [fpart, part', Tryz.f85, Option.getD] at hloop ⊢
                simp (maxSteps := 5000000) only [SA, SB, SD, R, guardAt, binP, intP, indexAddrP, elemsOf, readCells, lenP, lenAt, resultsP, resultP, oneOr, reduceCtorEq, reduceIte, Nat.reduceEqDiff, Nat.reduceAdd, Nat.zero_add, Nat.reduceMul, Nat.reduceLT, Nat.reduceLeDiff, Int.reduceLT, Int.reduceNeg, Int.reduceLE, appendP, appendAt, letGo, setLoc, locVal, Int.reduceToNat, boxCells, und, TG, SE, SC, List.getElem?_cons_zero, List.getElem?_cons_succ, unP, htu, htr, hky, hlen, eqgV, eqgK, loadR, loadP, lay, List.take_succ_cons, List.take_zero, List.drop_nil, List.filter_nil, List.cons_append, List.length_nil, Int.reduceBEq, Int.reduceBNe, Int.reduceGT, Int.reduceGE, Int.reduceLT, Bool.not_true, Bool.not_false, Bool.not_not, h1, h2, h3, h4, h5, h6, h7]
                generalize hE : ev (Code.loop _) _ = z
                have hz : ∃ e' bx', z = some (.exit 0, ⟨e', bx'⟩) := by
                  rw [← hE]
                  refine hloop _ _ ?_ ?_
                  · simp (maxSteps := 5000000) only [SA, SB, SD, R, guardAt, binP, intP, indexAddrP, elemsOf, readCells, lenP, lenAt, resultsP, resultP, oneOr, reduceCtorEq, reduceIte, Nat.reduceEqDiff, Nat.reduceAdd, Nat.zero_add, Nat.reduceMul, Nat.reduceLT, Nat.reduceLeDiff, Int.reduceLT, Int.reduceNeg, Int.reduceLE, appendP, appendAt, letGo, setLoc, locVal, Int.reduceToNat, boxCells, und, hx0]
                  · simp (maxSteps := 5000000) only [SA, SB, SD, R, guardAt, binP, intP, indexAddrP, elemsOf, readCells, lenP, lenAt, resultsP, resultP, oneOr, reduceCtorEq, reduceIte, Nat.reduceEqDiff, Nat.reduceAdd, Nat.zero_add, Nat.reduceMul, Nat.reduceLT, Nat.reduceLeDiff, Int.reduceLT, Int.reduceNeg, Int.reduceLE, appendP, appendAt, letGo, setLoc, locVal, Int.reduceToNat, boxCells, und]
                obtain ⟨e', bx', he⟩ := hz
                subst he
                simp (maxSteps := 5000000) only [SA, SB, SD, R, guardAt, binP, intP, indexAddrP, elemsOf, readCells, lenP, lenAt, resultsP, resultP, oneOr, reduceCtorEq, reduceIte, Nat.reduceEqDiff, Nat.reduceAdd, Nat.zero_add, Nat.reduceMul, Nat.reduceLT, Nat.reduceLeDiff, Int.reduceLT, Int.reduceNeg, Int.reduceLE, appendP, appendAt, letGo, setLoc, locVal, Int.reduceToNat, boxCells, und, TG, SE]
                exact ⟨_, rfl⟩
theorem loop0_R28_Same (L : Code) (hL : L = fpart Tryz.f23 [1,1,0,1,0]) (c0 c1 c2 c3 c4 c5 c6 c7 c8 c9 : PV) (xs : List PV) (b1 : PBox) (hx : (xs.length : Int) = 0) (e : List PV) (h1 : getT e 2 = .bp 0 0) (h2 : getT e 5 = .int .i64 0) : ∃ e' bx', evL CC L ⟨e, [.cells 29 [c0, c1, c2, c3, c4, c5, c6, c7, c8, c9, .sl xs], b1]⟩ = some (.exit 0, ⟨e', bx'⟩) := by
  rw [evL_at (fpart Tryz.f23 [1,1,0,1,0,0]) hL]
  have hlen : True := trivial
  obtain ⟨tu, htu⟩ := VLs
  obtain ⟨tr, htr⟩ := TRs
  obtain ⟨tk, hky⟩ := KYs
  have hi : ¬ ((0 : Int) < 0) := by decide
  obtain ⟨ev, eo, so, co, ⟨hev, hco⟩, R⟩ := RULES CC; rw [← hev]
  simp only [fpart, part', Tryz.f23, Option.getD]
  simp (maxSteps := 5000000) only [SA, SB, SD, R, guardAt, binP, intP, indexAddrP, elemsOf, readCells, lenP, lenAt, resultsP, resultP, oneOr, reduceCtorEq, reduceIte, Nat.reduceEqDiff, Nat.reduceAdd, Nat.zero_add, Nat.reduceMul, Nat.reduceLT, Nat.reduceLeDiff, Int.reduceLT, Int.reduceNeg, Int.reduceLE, appendP, appendAt, letGo, setLoc, locVal, Int.reduceToNat, boxCells, und, TG, SE, SC, List.getElem?_cons_zero, List.getElem?_cons_succ, unP, htu, htr, hky, hlen, eqgV, eqgK, loadR, loadP, lay, List.take_succ_cons, List.take_zero, List.drop_nil, List.filter_nil, List.cons_append, List.length_nil, Int.reduceBEq, Int.reduceBNe, Int.reduceGT, Int.reduceGE, Int.reduceLT, Bool.not_true, Bool.not_false, Bool.not_not, h1, h2, hx, hi]
  exact ⟨_, _, rfl⟩
theorem same_R28_Same (k n m : Int) (nm : List UInt8) (vk vn : Int) (vs : List UInt8) (dv : Int) (cl at_ : List UInt8) (xs : List PV) (k' n' m' : Int) (nm' : List UInt8) (vk' vn' : Int) (vs' : List UInt8) (dv' : Int) (cl' at' : List UInt8) (b1 b2 b3 b4 b5 b6 b7 : Bool)
    (h1 : (k != k') = b1) (h2 : (n != n') = b2) (h3 : (m != m') = b3) (h4 : strP .neq nm nm' = some (.bool b4)) (h5 : eqP CC 100 24 (.agg [.int .i64 vk, .int .i64 vn, .str vs]) (.agg [.int .i64 vk', .int .i64 vn', .str vs']) = some (!b5)) (h6 : eqP CC 100 26 (.agg [.int .i64 dv, .str cl, .str at_]) (.agg [.int .i64 dv', .str cl', .str at']) = some (!b6)) (h7 : ((xs.length : Int) != ((0 : Nat) : Int)) = b7) :
    ∃ bx, callL CC 23 [.agg [.int .i64 k, .int .i64 n, .int .i64 m, .str nm, .int .i64 vk, .int .i64 vn, .str vs, .int .i64 dv, .str cl, .str at_, .sl xs], .agg [.int .i64 k', .int .i64 n', .int .i64 m', .str nm', .int .i64 vk', .int .i64 vn', .str vs', .int .i64 dv', .str cl', .str at', .sl []]] [] = some (.ret (.bool (!(b1 || b2 || b3 || b4 || b5 || b6 || b7))), bx) := by
  have hlen : True := trivial
  obtain ⟨tu, htu⟩ := VLs
  obtain ⟨tr, htr⟩ := TRs
  obtain ⟨tk, hky⟩ := KYs
  have hloop := fun c0 c1 c2 c3 c4 c5 c6 c7 c8 c9 xs b1 => loop0_R28_Same _ rfl c0 c1 c2 c3 c4 c5 c6 c7 c8 c9 xs b1
  rw [callL_enter (fn := Tryz.f23) (c := Tryz.f23.body.getD .skip) rfl rfl fat_R28_Same rfl ok_R28_Same (Nat.le_of_ble_eq_true rfl)]
  cases b1 with
  | true =>
    obtain ⟨ev, eo, so, co, ⟨hev, hco⟩, R⟩ := RULES CC; rw [← hev]
    simp only [fpart, part', Tryz.f23, Option.getD]
    simp (maxSteps := 5000000) only [SA, SB, SD, R, guardAt, binP, intP, indexAddrP, elemsOf, readCells, lenP, lenAt, resultsP, resultP, oneOr, reduceCtorEq, reduceIte, Nat.reduceEqDiff, Nat.reduceAdd, Nat.zero_add, Nat.reduceMul, Nat.reduceLT, Nat.reduceLeDiff, Int.reduceLT, Int.reduceNeg, Int.reduceLE, appendP, appendAt, letGo, setLoc, locVal, Int.reduceToNat, boxCells, und, TG, SE, SC, List.getElem?_cons_zero, List.getElem?_cons_succ, unP, htu, htr, hky, hlen, eqgV, eqgK, loadR, loadP, lay, List.take_succ_cons, List.take_zero, List.drop_nil, List.filter_nil, List.cons_append, List.length_nil, Int.reduceBEq, Int.reduceBNe, Int.reduceGT, Int.reduceGE, Int.reduceLT, Bool.not_true, Bool.not_false, Bool.not_not, h1]
    exact ⟨_, rfl⟩
  | false =>
    cases b2 with
    | true =>
      obtain ⟨ev, eo, so, co, ⟨hev, hco⟩, R⟩ := RULES CC; rw [← hev]
      simp only [fpart, part', Tryz.f23, Option.getD]
      simp (maxSteps := 5000000) only [SA, SB, SD, R, guardAt, binP, intP, indexAddrP, elemsOf, readCells, lenP, lenAt, resultsP, resultP, oneOr, reduceCtorEq, reduceIte, Nat.reduceEqDiff, Nat.reduceAdd, Nat.zero_add, Nat.reduceMul, Nat.reduceLT, Nat.reduceLeDiff, Int.reduceLT, Int.reduceNeg, Int.reduceLE, appendP, appendAt, letGo, setLoc, locVal, Int.reduceToNat, boxCells, und, TG, SE, SC, List.getElem?_cons_zero, List.getElem?_cons_succ, unP, htu, htr, hky, hlen, eqgV, eqgK, loadR, loadP, lay, List.take_succ_cons, List.take_zero, List.drop_nil, List.filter_nil, List.cons_append, List.length_nil, Int.reduceBEq, Int.reduceBNe, Int.reduceGT, Int.reduceGE, Int.reduceLT, Bool.not_true, Bool.not_false, Bool.not_not, h1, h2]
      exact ⟨_, rfl⟩
    | false =>
      cases b3 with
      | true =>
        obtain ⟨ev, eo, so, co, ⟨hev, hco⟩, R⟩ := RULES CC; rw [← hev]
        simp only [fpart, part', Tryz.f23, Option.getD]
        simp (maxSteps := 5000000) only [SA, SB, SD, R, guardAt, binP, intP, indexAddrP, elemsOf, readCells, lenP, lenAt, resultsP, resultP, oneOr, reduceCtorEq, reduceIte, Nat.reduceEqDiff, Nat.reduceAdd, Nat.zero_add, Nat.reduceMul, Nat.reduceLT, Nat.reduceLeDiff, Int.reduceLT, Int.reduceNeg, Int.reduceLE, appendP, appendAt, letGo, setLoc, locVal, Int.reduceToNat, boxCells, und, TG, SE, SC, List.getElem?_cons_zero, List.getElem?_cons_succ, unP, htu, htr, hky, hlen, eqgV, eqgK, loadR, loadP, lay, List.take_succ_cons, List.take_zero, List.drop_nil, List.filter_nil, List.cons_append, List.length_nil, Int.reduceBEq, Int.reduceBNe, Int.reduceGT, Int.reduceGE, Int.reduceLT, Bool.not_true, Bool.not_false, Bool.not_not, h1, h2, h3]
        exact ⟨_, rfl⟩
      | false =>
        cases b4 with
        | true =>
          obtain ⟨ev, eo, so, co, ⟨hev, hco⟩, R⟩ := RULES CC; rw [← hev]
          simp only [fpart, part', Tryz.f23, Option.getD]
          simp (maxSteps := 5000000) only [SA, SB, SD, R, guardAt, binP, intP, indexAddrP, elemsOf, readCells, lenP, lenAt, resultsP, resultP, oneOr, reduceCtorEq, reduceIte, Nat.reduceEqDiff, Nat.reduceAdd, Nat.zero_add, Nat.reduceMul, Nat.reduceLT, Nat.reduceLeDiff, Int.reduceLT, Int.reduceNeg, Int.reduceLE, appendP, appendAt, letGo, setLoc, locVal, Int.reduceToNat, boxCells, und, TG, SE, SC, List.getElem?_cons_zero, List.getElem?_cons_succ, unP, htu, htr, hky, hlen, eqgV, eqgK, loadR, loadP, lay, List.take_succ_cons, List.take_zero, List.drop_nil, List.filter_nil, List.cons_append, List.length_nil, Int.reduceBEq, Int.reduceBNe, Int.reduceGT, Int.reduceGE, Int.reduceLT, Bool.not_true, Bool.not_false, Bool.not_not, h1, h2, h3, h4]
          exact ⟨_, rfl⟩
        | false =>
          cases b5 with
          | true =>
            obtain ⟨ev, eo, so, co, ⟨hev, hco⟩, R⟩ := RULES CC; rw [← hev]
            simp only [fpart, part', Tryz.f23, Option.getD]
            simp (maxSteps := 5000000) only [SA, SB, SD, R, guardAt, binP, intP, indexAddrP, elemsOf, readCells, lenP, lenAt, resultsP, resultP, oneOr, reduceCtorEq, reduceIte, Nat.reduceEqDiff, Nat.reduceAdd, Nat.zero_add, Nat.reduceMul, Nat.reduceLT, Nat.reduceLeDiff, Int.reduceLT, Int.reduceNeg, Int.reduceLE, appendP, appendAt, letGo, setLoc, locVal, Int.reduceToNat, boxCells, und, TG, SE, SC, List.getElem?_cons_zero, List.getElem?_cons_succ, unP, htu, htr, hky, hlen, eqgV, eqgK, loadR, loadP, lay, List.take_succ_cons, List.take_zero, List.drop_nil, List.filter_nil, List.cons_append, List.length_nil, Int.reduceBEq, Int.reduceBNe, Int.reduceGT, Int.reduceGE, Int.reduceLT, Bool.not_true, Bool.not_false, Bool.not_not, h1, h2, h3, h4, h5]
            exact ⟨_, rfl⟩
          | false =>
            cases b6 with
            | true =>
              obtain ⟨ev, eo, so, co, ⟨hev, hco⟩, R⟩ := RULES CC; rw [← hev]
              simp only [fpart, part', Tryz.f23, Option.getD]
              simp (maxSteps := 5000000) only [SA, SB, SD, R, guardAt, binP, intP, indexAddrP, elemsOf, readCells, lenP, lenAt, resultsP, resultP, oneOr, reduceCtorEq, reduceIte, Nat.reduceEqDiff, Nat.reduceAdd, Nat.zero_add, Nat.reduceMul, Nat.reduceLT, Nat.reduceLeDiff, Int.reduceLT, Int.reduceNeg, Int.reduceLE, appendP, appendAt, letGo, setLoc, locVal, Int.reduceToNat, boxCells, und, TG, SE, SC, List.getElem?_cons_zero, List.getElem?_cons_succ, unP, htu, htr, hky, hlen, eqgV, eqgK, loadR, loadP, lay, List.take_succ_cons, List.take_zero, List.drop_nil, List.filter_nil, List.cons_append, List.length_nil, Int.reduceBEq, Int.reduceBNe, Int.reduceGT, Int.reduceGE, Int.reduceLT, Bool.not_true, Bool.not_false, Bool.not_not, h1, h2, h3, h4, h5, h6]
              exact ⟨_, rfl⟩
            | false =>
              cases b7 with
              | true =>
                obtain ⟨ev, eo, so, co, ⟨hev, hco⟩, R⟩ := RULES CC; rw [← hev]
                simp only [fpart, part', Tryz.f23, Option.getD]
                simp (maxSteps := 5000000) only [SA, SB, SD, R, guardAt, binP, intP, indexAddrP, elemsOf, readCells, lenP, lenAt, resultsP, resultP, oneOr, reduceCtorEq, reduceIte, Nat.reduceEqDiff, Nat.reduceAdd, Nat.zero_add, Nat.reduceMul, Nat.reduceLT, Nat.reduceLeDiff, Int.reduceLT, Int.reduceNeg, Int.reduceLE, appendP, appendAt, letGo, setLoc, locVal, Int.reduceToNat, boxCells, und, TG, SE, SC, List.getElem?_cons_zero, List.getElem?_cons_succ, unP, htu, htr, hky, hlen, eqgV, eqgK, loadR, loadP, lay, List.take_succ_cons, List.take_zero, List.drop_nil, List.filter_nil, List.cons_append, List.length_nil, Int.reduceBEq, Int.reduceBNe, Int.reduceGT, Int.reduceGE, Int.reduceLT, Bool.not_true, Bool.not_false, Bool.not_not, h1, h2, h3, h4, h5, h6, h7]
                exact ⟨_, rfl⟩
              | false =>
                have hx0 : (xs.length : Int) = 0 := by simpa using h7
                obtain ⟨ev, eo, so, co, ⟨hev, hco⟩, R⟩ := RULES CC; rw [← hev]
                rw [← hev] at hloop
                simp only [fpart, part', Tryz.f23, Option.getD] at hloop ⊢
                simp (maxSteps := 5000000) only [SA, SB, SD, R, guardAt, binP, intP, indexAddrP, elemsOf, readCells, lenP, lenAt, resultsP, resultP, oneOr, reduceCtorEq, reduceIte, Nat.reduceEqDiff, Nat.reduceAdd, Nat.zero_add, Nat.reduceMul, Nat.reduceLT, Nat.reduceLeDiff, Int.reduceLT, Int.reduceNeg, Int.reduceLE, appendP, appendAt, letGo, setLoc, locVal, Int.reduceToNat, boxCells, und, TG, SE, SC, List.getElem?_cons_zero, List.getElem?_cons_succ, unP, htu, htr, hky, hlen, eqgV, eqgK, loadR, loadP, lay, List.take_succ_cons, List.take_zero, List.drop_nil, List.filter_nil, List.cons_append, List.length_nil, Int.reduceBEq, Int.reduceBNe, Int.reduceGT, Int.reduceGE, Int.reduceLT, Bool.not_true, Bool.not_false, Bool.not_not, h1, h2, h3, h4, h5, h6, h7]
                generalize hE : ev (Code.loop _) _ = z
                have hz : ∃ e' bx', z = some (.exit 0, ⟨e', bx'⟩) := by
                  rw [← hE]
                  refine hloop _ _ _ _ _ _ _ _ _ _ _ _ hx0 _ ?_ ?_
                  · simp (maxSteps := 5000000) only [SA, SB, SD, R, guardAt, binP, intP, indexAddrP, elemsOf, readCells, lenP, lenAt, resultsP, resultP, oneOr, reduceCtorEq, reduceIte, Nat.reduceEqDiff, Nat.reduceAdd, Nat.zero_add, Nat.reduceMul, Nat.reduceLT, Nat.reduceLeDiff, Int.reduceLT, Int.reduceNeg, Int.reduceLE, appendP, appendAt, letGo, setLoc, locVal, Int.reduceToNat, boxCells, und]
                  · simp (maxSteps := 5000000) only [SA, SB, SD, R, guardAt, binP, intP, indexAddrP, elemsOf, readCells, lenP, lenAt, resultsP, resultP, oneOr, reduceCtorEq, reduceIte, Nat.reduceEqDiff, Nat.reduceAdd, Nat.zero_add, Nat.reduceMul, Nat.reduceLT, Nat.reduceLeDiff, Int.reduceLT, Int.reduceNeg, Int.reduceLE, appendP, appendAt, letGo, setLoc, locVal, Int.reduceToNat, boxCells, und]
                obtain ⟨e', bx', he⟩ := hz
                subst he
                simp (maxSteps := 5000000) only [SA, SB, SD, R, guardAt, binP, intP, indexAddrP, elemsOf, readCells, lenP, lenAt, resultsP, resultP, oneOr, reduceCtorEq, reduceIte, Nat.reduceEqDiff, Nat.reduceAdd, Nat.zero_add, Nat.reduceMul, Nat.reduceLT, Nat.reduceLeDiff, Int.reduceLT, Int.reduceNeg, Int.reduceLE, appendP, appendAt, letGo, setLoc, locVal, Int.reduceToNat, boxCells, und, TG, SE]
                exact ⟨_, rfl⟩
/-- is an expression the zero one? -/
def nnB (t : Tr) : Bool := smB t 0 0 0 [] (0, 0, []) (0, [], [])
theorem buildTr0 : buildP CC 29 [] = some (.agg [.int .i64 0, .int .i64 0, .int .i64 0, .str [], .int .i64 0, .int .i64 0, .str [], .int .i64 0, .str [], .str [], .nils]) := by kernel_rfl
theorem op_expr_Same (t : Tr) (k n m : Int) (nm : List UInt8) (v : Vl) (key : Ky) (bx) : callOp CC (callL CC) 85 [trV t, leafV k n m nm v key] bx = some (.ret (.bool (smB t k n m nm v key)), bx) := by
  obtain ⟨k', n', m', nm', v', key', kids⟩ := t
  obtain ⟨vk, vn, vs⟩ := v
  obtain ⟨dv, cl, at_⟩ := key
  obtain ⟨vk', vn', vs'⟩ := v'
  obtain ⟨dv', cl', at'⟩ := key'
  have h4 : strP .neq nm' nm = some (.bool (!(nm' == nm))) := rfl
  have h5 : eqP CC 100 24 (.agg [.int .i64 vk', .int .i64 vn', .str vs']) (.agg [.int .i64 vk, .int .i64 vn, .str vs]) = some (!(!(eqVl (vk', vn', vs') (vk, vn, vs)))) := by rw [eqVP, Bool.not_not]; rfl
  have h6 : eqP CC 100 26 (.agg [.int .i64 dv', .str cl', .str at']) (.agg [.int .i64 dv, .str cl, .str at_]) = some (!(!(eqKy (dv', cl', at') (dv, cl, at_)))) := by rw [eqKP, Bool.not_not]; rfl
  have hs := same_expr_Same k' n' m' nm' vk' vn' vs' dv' cl' at' (trVs kids) k n m nm vk vn vs dv cl at_ _ _ _ _ _ _ _ rfl rfl rfl h4 h5 h6 rfl
  obtain ⟨b, hs⟩ := hs
  have he : smB (.mk k' n' m' nm' (vk', vn', vs') (dv', cl', at') kids) k n m nm (vk, vn, vs) (dv, cl, at_) = !((k' != k) || (n' != n) || (m' != m) || (!(nm' == nm)) || (!(eqVl (vk', vn', vs') (vk, vn, vs))) || (!(eqKy (dv', cl', at') (dv, cl, at_))) || (((trVs kids).length : Int) != ((0 : Nat) : Int))) := by
    unfold smB
    simp only
    have hl : (kids.length == 0) = (((trVs kids).length : Int) == ((0 : Nat) : Int)) := by
      rw [trVs_length, Bool.eq_iff_iff]
      simp only [beq_iff_eq]
      omega
    rw [hl]
    simp only [bne, Bool.not_or, Bool.not_not]
  rw [he]
  have hp := trVs_pure kids
  refine callOp_of rfl ?_ (by unfold trV leafV; exact hs) rfl
  rw [pureL_cons, trV_pure]
  rfl
theorem op_print_none (t : Tr) (bx) : callOp CC (callL CC) 62 [trV t] bx = some (.ret (.bool (nnB t)), bx) := by
  have hsm := op_expr_Same t 0 0 0 [] (0, 0, []) (0, [], [])
  unfold nnB
  generalize smB t 0 0 0 [] (0, 0, []) (0, [], []) = b at *
  have hc : ∃ q, callL CC 62 [trV t] [] = some (.ret (.bool b), q) := by
    rw [callL_enter (fn := Tryz.f62) (c := Tryz.f62.body.getD .skip) rfl rfl fat_print_none rfl ok_print_none (Nat.le_of_ble_eq_true rfl)]
    obtain ⟨xk, xn, xm, xnm, xv, xkey, xkids⟩ := t
    unfold trV leafV at hsm
    unfold trV
    simp only at hsm
    generalize trVs xkids = xs at *
    have hlen : True := trivial
    obtain ⟨tu, htu⟩ := VLs
    obtain ⟨tr, htr⟩ := TRs
    obtain ⟨tk, hky⟩ := KYs
    obtain ⟨ev, eo, so, co, ⟨hev, hco⟩, R⟩ := RULES CC; rw [← hev]
    rw [← hco] at hsm
    simp only [fpart, part', Tryz.f62, Option.getD]
    simp (maxSteps := 5000000) only [SA, SB, SD, R, guardAt, binP, intP, indexAddrP, elemsOf, readCells, lenP, lenAt, resultsP, resultP, oneOr, reduceCtorEq, reduceIte, Nat.reduceEqDiff, Nat.reduceAdd, Nat.zero_add, Nat.reduceMul, Nat.reduceLT, Nat.reduceLeDiff, Int.reduceLT, Int.reduceNeg, Int.reduceLE, appendP, appendAt, letGo, setLoc, locVal, Int.reduceToNat, boxCells, und, TG, SE, SC, List.getElem?_cons_zero, List.getElem?_cons_succ, unP, htu, htr, hky, hlen, eqgV, eqgK, loadR, loadP, lay, List.take_succ_cons, List.take_zero, List.drop_nil, List.filter_nil, List.cons_append, List.length_nil, Int.reduceBEq, Int.reduceBNe, Int.reduceGT, Int.reduceGE, Int.reduceLT, Bool.not_true, Bool.not_false, Bool.not_not, hsm, buildTr0]
    exact ⟨_, rfl⟩
  obtain ⟨q, hq⟩ := hc
  exact callOp_of rfl (by simp only [pureL_cons, trV_pure, pureL_nil, Bool.and_self]) hq rfl
theorem op_R28_Same (t : Tr) (k n m : Int) (nm : List UInt8) (v : Vl) (key : Ky) (bx) : callOp CC (callL CC) 23 [trV t, leafV k n m nm v key] bx = some (.ret (.bool (smB t k n m nm v key)), bx) := by
  obtain ⟨k', n', m', nm', v', key', kids⟩ := t
  obtain ⟨vk, vn, vs⟩ := v
  obtain ⟨dv, cl, at_⟩ := key
  obtain ⟨vk', vn', vs'⟩ := v'
  obtain ⟨dv', cl', at'⟩ := key'
  have h4 : strP .neq nm' nm = some (.bool (!(nm' == nm))) := rfl
  have h5 : eqP CC 100 24 (.agg [.int .i64 vk', .int .i64 vn', .str vs']) (.agg [.int .i64 vk, .int .i64 vn, .str vs]) = some (!(!(eqVl (vk', vn', vs') (vk, vn, vs)))) := by rw [eqVP, Bool.not_not]; rfl
  have h6 : eqP CC 100 26 (.agg [.int .i64 dv', .str cl', .str at']) (.agg [.int .i64 dv, .str cl, .str at_]) = some (!(!(eqKy (dv', cl', at') (dv, cl, at_)))) := by rw [eqKP, Bool.not_not]; rfl
  have hs := same_R28_Same k' n' m' nm' vk' vn' vs' dv' cl' at' (trVs kids) k n m nm vk vn vs dv cl at_ _ _ _ _ _ _ _ rfl rfl rfl h4 h5 h6 rfl
  obtain ⟨b, hs⟩ := hs
  have he : smB (.mk k' n' m' nm' (vk', vn', vs') (dv', cl', at') kids) k n m nm (vk, vn, vs) (dv, cl, at_) = !((k' != k) || (n' != n) || (m' != m) || (!(nm' == nm)) || (!(eqVl (vk', vn', vs') (vk, vn, vs))) || (!(eqKy (dv', cl', at') (dv, cl, at_))) || (((trVs kids).length : Int) != ((0 : Nat) : Int))) := by
    unfold smB
    simp only
    have hl : (kids.length == 0) = (((trVs kids).length : Int) == ((0 : Nat) : Int)) := by
      rw [trVs_length, Bool.eq_iff_iff]
      simp only [beq_iff_eq]
      omega
    rw [hl]
    simp only [bne, Bool.not_or, Bool.not_not]
  rw [he]
  have hp := trVs_pure kids
  refine callOp_of rfl ?_ (by unfold trV leafV; exact hs) rfl
  rw [pureL_cons, trV_pure]
  rfl
theorem op_R30_None (t : Tr) (bx) : callOp CC (callL CC) 67 [trV t] bx = some (.ret (.bool (nnB t)), bx) := by
  have hsm := op_R28_Same t 0 0 0 [] (0, 0, []) (0, [], [])
  unfold nnB
  generalize smB t 0 0 0 [] (0, 0, []) (0, [], []) = b at *
  have hc : ∃ q, callL CC 67 [trV t] [] = some (.ret (.bool b), q) := by
    rw [callL_enter (fn := Tryz.f67) (c := Tryz.f67.body.getD .skip) rfl rfl fat_R30_None rfl ok_R30_None (Nat.le_of_ble_eq_true rfl)]
    obtain ⟨xk, xn, xm, xnm, xv, xkey, xkids⟩ := t
    unfold trV leafV at hsm
    unfold trV
    simp only at hsm
    generalize trVs xkids = xs at *
    have hlen : True := trivial
    obtain ⟨tu, htu⟩ := VLs
    obtain ⟨tr, htr⟩ := TRs
    obtain ⟨tk, hky⟩ := KYs
    obtain ⟨ev, eo, so, co, ⟨hev, hco⟩, R⟩ := RULES CC; rw [← hev]
    rw [← hco] at hsm
    simp only [fpart, part', Tryz.f67, Option.getD]
    simp (maxSteps := 5000000) only [SA, SB, SD, R, guardAt, binP, intP, indexAddrP, elemsOf, readCells, lenP, lenAt, resultsP, resultP, oneOr, reduceCtorEq, reduceIte, Nat.reduceEqDiff, Nat.reduceAdd, Nat.zero_add, Nat.reduceMul, Nat.reduceLT, Nat.reduceLeDiff, Int.reduceLT, Int.reduceNeg, Int.reduceLE, appendP, appendAt, letGo, setLoc, locVal, Int.reduceToNat, boxCells, und, TG, SE, SC, List.getElem?_cons_zero, List.getElem?_cons_succ, unP, htu, htr, hky, hlen, eqgV, eqgK, loadR, loadP, lay, List.take_succ_cons, List.take_zero, List.drop_nil, List.filter_nil, List.cons_append, List.length_nil, Int.reduceBEq, Int.reduceBNe, Int.reduceGT, Int.reduceGE, Int.reduceLT, Bool.not_true, Bool.not_false, Bool.not_not, hsm, buildTr0]
    exact ⟨_, rfl⟩
  obtain ⟨q, hq⟩ := hc
  exact callOp_of rfl (by simp only [pureL_cons, trV_pure, pureL_nil, Bool.and_self]) hq rfl
theorem uEV : Tryz.prog.underlying 56 = some (.struct ((match Tryz.prog.underlying 56 with | some (.struct f) => f | _ => #[]))) := by kernel_rfl
theorem fEV : ((match Tryz.prog.underlying 56 with | some (.struct f) => f | _ => #[]) : Array Field).toList.map (fun f => (f.type, f.offset)) = [(3, 0), (9, 1), (9, 2)] := by kernel_rfl
theorem cEV : Tryz.prog.cellsOf 56 = 3 := by kernel_rfl
theorem aggEV : aggT Tryz.prog 56 = true := by unfold aggT; rw [uEV]
theorem EVs : ∃ f, CC.P.underlying 56 = some (.struct f) := ⟨_, uEV⟩
theorem uTG_ : Tryz.prog.underlying 58 = some (.struct ((match Tryz.prog.underlying 58 with | some (.struct f) => f | _ => #[]))) := by kernel_rfl
theorem fTG_ : ((match Tryz.prog.underlying 58 with | some (.struct f) => f | _ => #[]) : Array Field).toList.map (fun f => (f.type, f.offset)) = [(3, 0), (26, 1), (56, 4), (9, 7), (3, 8), (3, 9)] := by kernel_rfl
theorem cTG_ : Tryz.prog.cellsOf 58 = 10 := by kernel_rfl
theorem aggTG_ : aggT Tryz.prog 58 = true := by unfold aggT; rw [uTG_]
theorem TG_s : ∃ f, CC.P.underlying 58 = some (.struct f) := ⟨_, uTG_⟩
theorem uSP : Tryz.prog.underlying 60 = some (.struct ((match Tryz.prog.underlying 60 with | some (.struct f) => f | _ => #[]))) := by kernel_rfl
theorem fSP : ((match Tryz.prog.underlying 60 with | some (.struct f) => f | _ => #[]) : Array Field).toList.map (fun f => (f.type, f.offset)) = [(3, 0), (26, 1), (9, 4), (29, 5)] := by kernel_rfl
theorem cSP : Tryz.prog.cellsOf 60 = 16 := by kernel_rfl
theorem aggSP : aggT Tryz.prog 60 = true := by unfold aggT; rw [uSP]
theorem SPs : ∃ f, CC.P.underlying 60 = some (.struct f) := ⟨_, uSP⟩
theorem uRL : Tryz.prog.underlying 32 = some (.struct ((match Tryz.prog.underlying 32 with | some (.struct f) => f | _ => #[]))) := by kernel_rfl
theorem fRL : ((match Tryz.prog.underlying 32 with | some (.struct f) => f | _ => #[]) : Array Field).toList.map (fun f => (f.type, f.offset)) = [(9, 0), (3, 1), (22, 2), (29, 3), (30, 14)] := by kernel_rfl
theorem cRL : Tryz.prog.cellsOf 32 = 15 := by kernel_rfl
theorem aggRL : aggT Tryz.prog 32 = true := by unfold aggT; rw [uRL]
theorem RLs : ∃ f, CC.P.underlying 32 = some (.struct f) := ⟨_, uRL⟩
theorem uTgs : Tryz.prog.underlying 22 = some (.slice 58) := by kernel_rfl
theorem uSps : Tryz.prog.underlying 30 = some (.slice 60) := by kernel_rfl
theorem cTgs : Tryz.prog.cellsOf 22 = 1 := by kernel_rfl
theorem cSps : Tryz.prog.cellsOf 30 = 1 := by kernel_rfl
theorem hasV_event {p : PV} (h : HasV Tryz.prog 56 p) : ∃ k : Ky, p = kyV k ∧ okKy k := by
  obtain ⟨n, cs, rfl, hlen, hf⟩ := hasV_struct uEV fEV h
  rw [cEV] at hlen
  match cs, hlen with
  | [a, b, c], _ =>
    have f0 := hf (3, 0) (by simp)
    have f1 := hf (9, 1) (by simp)
    have f2 := hf (9, 2) (by simp)
    simp only [cInt, cStr] at f0 f1 f2
    obtain ⟨k, e0, h0⟩ := hasT_i64 (P := Tryz.prog) Tryz.underlying3 f0
    obtain ⟨m, e1, h1⟩ := hasT_str (P := Tryz.prog) Tryz.underlying9 f1
    obtain ⟨s, e2, h2⟩ := hasT_str (P := Tryz.prog) Tryz.underlying9 f2
    injection e0 with e0
    injection e1 with e1
    injection e2 with e2
    subst e0 e1 e2
    exact ⟨(k, m, s), rfl, h0, h1, h2⟩
/-- a trigger -/
structure Tg where
  k : Int
  key : Ky
  ev : Ky
  nm : List UInt8
  n : Int
  m : Int
def tgV (t : Tg) : PV := .agg [.int .i64 t.k, .int .i64 t.key.1, .str t.key.2.1, .str t.key.2.2, .int .i64 t.ev.1, .str t.ev.2.1, .str t.ev.2.2, .str t.nm, .int .i64 t.n, .int .i64 t.m]
def okTg (t : Tg) : Prop := inI t.k ∧ okKy t.key ∧ okKy t.ev ∧ t.nm.length ≤ maxLen ∧ inI t.n ∧ inI t.m
theorem hasV_tg {p : PV} (h : HasV Tryz.prog 58 p) : ∃ t : Tg, p = tgV t ∧ okTg t := by
  obtain ⟨n, cs, rfl, hlen, hf⟩ := hasV_struct uTG_ fTG_ h
  rw [cTG_] at hlen
  match cs, hlen with
  | [a0, a1, a2, a3, a4, a5, a6, a7, a8, a9], _ =>
    have f0 := hf (3, 0) (by simp)
    have f1 := hf (26, 1) (by simp)
    have f2 := hf (56, 4) (by simp)
    have f3 := hf (9, 7) (by simp)
    have f4 := hf (3, 8) (by simp)
    have f5 := hf (3, 9) (by simp)
    simp only [cInt, cStr, cKy, cEV] at f0 f1 f2 f3 f4 f5
    have f1' : HasV Tryz.prog 26 (.agg [a1, a2, a3]) := ⟨n, [a1, a2, a3], by unfold mkV; rw [if_pos aggKy], fun _ => by rw [cKy]; rfl, f1⟩
    have f2' : HasV Tryz.prog 56 (.agg [a4, a5, a6]) := ⟨n, [a4, a5, a6], by unfold mkV; rw [if_pos aggEV], fun _ => by rw [cEV]; rfl, f2⟩
    obtain ⟨k, e0, h0⟩ := hasT_i64 (P := Tryz.prog) Tryz.underlying3 f0
    obtain ⟨ky, e1, h1⟩ := hasV_key f1'
    obtain ⟨ek, e2, h2⟩ := hasV_event f2'
    obtain ⟨s, e3, h3⟩ := hasT_str (P := Tryz.prog) Tryz.underlying9 f3
    obtain ⟨x, e4, h4⟩ := hasT_i64 (P := Tryz.prog) Tryz.underlying3 f4
    obtain ⟨y, e5, h5⟩ := hasT_i64 (P := Tryz.prog) Tryz.underlying3 f5
    unfold kyV at e1 e2
    simp only [List.drop_succ_cons, List.drop_zero, List.take_succ_cons, List.take_zero, List.cons.injEq, and_true, PV.agg.injEq] at e0 e1 e2 e3 e4 e5
    obtain ⟨e11, e12, e13⟩ := e1
    obtain ⟨e21, e22, e23⟩ := e2
    subst e0 e11 e12 e13 e21 e22 e23 e3 e4 e5
    exact ⟨⟨k, ky, ek, s, x, y⟩, rfl, h0, h1, h2, h3, h4, h5⟩
/-- the cells of an expression -/
def trC (t : Tr) : List PV := (trV t).cells
theorem trV_agg (t : Tr) : trV t = .agg (trC t) := by
  obtain ⟨k, n, m, nm, v, key, kids⟩ := t
  unfold trC trV
  rfl
theorem trC_len (t : Tr) : (trC t).length = 11 := by
  obtain ⟨k, n, m, nm, v, key, kids⟩ := t
  unfold trC trV
  rfl
/-- a step -/
structure Sp where
  k : Int
  key : Ky
  nm : List UInt8
  ex : Tr
def spV (s : Sp) : PV := .agg ([.int .i64 s.k, .int .i64 s.key.1, .str s.key.2.1, .str s.key.2.2, .str s.nm] ++ trC s.ex)
def okSp (s : Sp) : Prop := inI s.k ∧ okKy s.key ∧ s.nm.length ≤ maxLen ∧ okTr s.ex
theorem hasV_sp {p : PV} (h : HasV Tryz.prog 60 p) : ∃ s : Sp, p = spV s ∧ okSp s := by
  obtain ⟨n, cs, rfl, hlen, hf⟩ := hasV_struct uSP fSP h
  rw [cSP] at hlen
  match cs, hlen with
  | a0 :: a1 :: a2 :: a3 :: a4 :: r, hlen =>
    have hr : r.length = 11 := by simpa using hlen
    have f0 := hf (3, 0) (by simp)
    have f1 := hf (26, 1) (by simp)
    have f2 := hf (9, 4) (by simp)
    have f3 := hf (29, 5) (by simp)
    simp only [cInt, cStr, cKy, cTr] at f0 f1 f2 f3
    have f1' : HasV Tryz.prog 26 (.agg [a1, a2, a3]) := ⟨n, [a1, a2, a3], by unfold mkV; rw [if_pos aggKy], fun _ => by rw [cKy]; rfl, f1⟩
    have hrt : ((a0 :: a1 :: a2 :: a3 :: a4 :: r).drop 5).take 11 = r := by
      show r.take 11 = r
      exact List.take_of_length_le (by omega)
    rw [hrt] at f3
    obtain ⟨k, e0, h0⟩ := hasT_i64 (P := Tryz.prog) Tryz.underlying3 f0
    obtain ⟨ky, e1, h1⟩ := hasV_key f1'
    obtain ⟨s, e2, h2⟩ := hasT_str (P := Tryz.prog) Tryz.underlying9 f2
    obtain ⟨t, e3, h3⟩ := hasT_tr (n + 1) n (by omega) r hr f3
    unfold kyV at e1
    simp only [List.drop_succ_cons, List.drop_zero, List.take_succ_cons, List.take_zero, List.cons.injEq, and_true, PV.agg.injEq] at e0 e1 e2
    obtain ⟨e11, e12, e13⟩ := e1
    rw [trV_agg] at e3
    injection e3 with e3
    subst e0 e11 e12 e13 e2 e3
    exact ⟨⟨k, ky, s, t⟩, rfl, h0, h1, h2, h3⟩
/-- a rule -/
structure Rl where
  nm : List UInt8
  pr : Int
  on : List Tg
  ife : Tr
  dos : List Sp
def rlV (r : Rl) : PV := .agg ([.str r.nm, .int .i64 r.pr, .sl (r.on.map tgV)] ++ (trC r.ife ++ [.sl (r.dos.map spV)]))
def okRl (r : Rl) : Prop := r.nm.length ≤ maxLen ∧ inI r.pr ∧ r.on.length ≤ maxLen ∧ (∀ t ∈ r.on, okTg t) ∧ okTr r.ife ∧ r.dos.length ≤ maxLen ∧ ∀ s ∈ r.dos, okSp s
theorem hasV_rl {p : PV} (h : HasV Tryz.prog 32 p) : ∃ r : Rl, p = rlV r ∧ okRl r := by
  obtain ⟨n, cs, rfl, hlen, hf⟩ := hasV_struct uRL fRL h
  rw [cRL] at hlen
  match cs, hlen with
  | a0 :: a1 :: a2 :: r, hlen =>
    have hr : r.length = 12 := by simpa using hlen
    have f0 := hf (9, 0) (by simp)
    have f1 := hf (3, 1) (by simp)
    have f2 := hf (22, 2) (by simp)
    have f3 := hf (29, 3) (by simp)
    have f4 := hf (30, 14) (by simp)
    simp only [cInt, cStr, cTgs, cSps, cTr] at f0 f1 f2 f3 f4
    have hrt : ((a0 :: a1 :: a2 :: r).drop 3).take 11 = r.take 11 := rfl
    have hrd : ((a0 :: a1 :: a2 :: r).drop 14).take 1 = r.drop 11 := by
      show (r.drop 11).take 1 = r.drop 11
      exact List.take_of_length_le (by rw [List.length_drop]; omega)
    rw [hrt] at f3
    rw [hrd] at f4
    obtain ⟨s, e0, h0⟩ := hasT_str (P := Tryz.prog) Tryz.underlying9 f0
    obtain ⟨k, e1, h1⟩ := hasT_i64 (P := Tryz.prog) Tryz.underlying3 f1
    obtain ⟨xs, e2, h2, h2'⟩ := hasT_slice (P := Tryz.prog) uTgs f2
    obtain ⟨on, rfl, hon⟩ := list_of (f := tgV) (Q := okTg) xs (fun x hx => hasV_tg (h2' x hx))
    obtain ⟨t, e3, h3⟩ := hasT_tr (n + 1) n (by omega) (r.take 11) (by rw [List.length_take]; omega) f3
    obtain ⟨ys, e4, h4, h4'⟩ := hasT_slice (P := Tryz.prog) uSps f4
    obtain ⟨dos, rfl, hdo⟩ := list_of (f := spV) (Q := okSp) ys (fun x hx => hasV_sp (h4' x hx))
    simp only [List.drop_succ_cons, List.drop_zero, List.take_succ_cons, List.take_zero, List.cons.injEq, and_true] at e0 e1 e2
    rw [trV_agg] at e3
    injection e3 with e3
    have he : r = trC t ++ [.sl (dos.map spV)] := by rw [← e3, ← e4, List.take_append_drop]
    subst e0 e1 e2 he
    exact ⟨⟨s, k, on, t, dos⟩, rfl, h0, h1, by simpa using h2, hon, h3, by simpa using h4, hdo⟩
set_option maxHeartbeats 4000000
theorem ok_L30_plain : fnOK CC Tryz.f9 (Tryz.f9.body.getD .skip) = true := by kernel_rfl
theorem fat_L30_plain : CC.P.funcs[9]? = some Tryz.f9 := by kernel_rfl
def plTg (t : Tg) : Bool := decide (t.nm.length ≤ 100 ∧ t.key.2.1.length ≤ 100 ∧ t.key.2.2.length ≤ 100 ∧ t.ev.2.1.length ≤ 100 ∧ t.ev.2.2.length ≤ 100)
def plSp (s : Sp) : Bool := decide (s.nm.length ≤ 100 ∧ s.key.2.1.length ≤ 100 ∧ s.key.2.2.length ≤ 100 ∧ 0 ≤ mdT s.ex 220 30)
def plRl (r : Rl) : Bool := decide (r.nm.length ≤ 100 ∧ r.on.length ≤ 12 ∧ r.dos.length ≤ 12 ∧ 0 ≤ mdT r.ife 220 30) && r.on.all plTg && r.dos.all plSp
theorem TGf : zeroCells CC 58 = some [.int .i64 0, .int .i64 0, .str [], .str [], .int .i64 0, .str [], .str [], .str [], .int .i64 0, .int .i64 0] := by kernel_rfl
theorem SPf : zeroCells CC 60 = some [.int .i64 0, .int .i64 0, .str [], .str [], .str [], .int .i64 0, .int .i64 0, .int .i64 0, .str [], .int .i64 0, .int .i64 0, .str [], .int .i64 0, .str [], .str [], .nils] := by kernel_rfl
/-- what a loop leaves: it went through, or it returned false -/
def PPl (j : Nat) (bx : List PBox) (v : Bool) (res : Option (Ex × St)) : Prop := ∃ e' ex, (v = true ∧ res = some (.exit j, ⟨e', bx ++ ex⟩) ∧ getT e' 1 = .bp 0 0) ∨ (v = false ∧ res = some (.ret, ⟨e', bx ++ ex⟩) ∧ getT e' 2 = .bool false)
theorem PPl.app {j : Nat} {bx : List PBox} {x : PBox} {v : Bool} {res : Option (Ex × St)} (h : PPl j (bx ++ [x]) v res) : PPl j bx v res := by
  obtain ⟨e', ex, h⟩ := h
  refine ⟨e', [x] ++ ex, ?_⟩
  rw [← List.append_assoc]
  exact h
theorem loop_on (L : Code) (hL : L = fpart Tryz.f9 [1,1,0,1,0]) (l : List Tg) (hl : l.length ≤ 12) : ∀ (k i : Nat) (e : List PV) (bx : List PBox), i + k = l.length →
    getT e 1 = .bp 0 0 → getT e 30 = .sl (l.map tgV) → getT e 31 = .int .i64 l.length → getT e 32 = .int .i64 i → PPl 0 bx ((l.drop i).all plTg) (evL CC L ⟨e, bx⟩) := by
  intro k
  induction k with
  | zero =>
    intro i e bx hi0 e1 es el ei
    rw [evL_at (fpart Tryz.f9 [1,1,0,1,0,0]) hL]
    have hi : ¬ ((i : Int) < (l.length : Int)) := by omega
    rw [List.drop_eq_nil_of_le (by omega)]
    rw [List.all_nil]
    obtain ⟨tu, htu⟩ := VLs
    obtain ⟨tr, htr⟩ := TRs
    obtain ⟨tk, hky⟩ := KYs
    obtain ⟨te, hev1⟩ := EVs
    obtain ⟨tg, htg⟩ := TG_s
    obtain ⟨tp, hsp⟩ := SPs
    obtain ⟨tl, hrl⟩ := RLs
    generalize l.map tgV = xs at *
    obtain ⟨ev, eo, so, co, ⟨hev, hco⟩, R⟩ := RULES CC; rw [← hev]
    simp only [fpart, part', Tryz.f9, Option.getD]
    simp (maxSteps := 5000000) only [SA, SB, SD, R, guardAt, binP, intP, indexAddrP, elemsOf, readCells, lenP, lenAt, resultsP, resultP, oneOr, reduceCtorEq, reduceIte, Nat.reduceEqDiff, Nat.reduceAdd, Nat.zero_add, Nat.reduceMul, Nat.reduceLT, Nat.reduceLeDiff, Int.reduceLT, Int.reduceNeg, Int.reduceLE, appendP, appendAt, letGo, setLoc, locVal, Int.reduceToNat, boxCells, und, TG, SE, SC, TGf, SPf, List.getElem?_concat_length, List.getElem?_cons_zero, List.getElem?_cons_succ, List.take_nil, unP, htu, htr, hky, hev1, htg, hsp, hrl, loadR, loadP, lay, List.take_succ_cons, List.take_zero, List.drop_nil, List.filter_nil, List.cons_append, Int.reduceBEq, Int.reduceBNe, Int.reduceGT, Int.reduceGE, Bool.not_true, Bool.not_false, e1, es, el, ei, hi]
    exact ⟨_, [], .inl ⟨rfl, by rw [List.append_nil], by simp (maxSteps := 5000000) only [SA, SB, SD, R, guardAt, binP, intP, indexAddrP, elemsOf, readCells, lenP, lenAt, resultsP, resultP, oneOr, reduceCtorEq, reduceIte, Nat.reduceEqDiff, Nat.reduceAdd, Nat.zero_add, Nat.reduceMul, Nat.reduceLT, Nat.reduceLeDiff, Int.reduceLT, Int.reduceNeg, Int.reduceLE, appendP, appendAt, letGo, setLoc, locVal, Int.reduceToNat, boxCells, und, e1]⟩⟩
  | succ k ih =>
    intro i e bx hi0 e1 es el ei
    rw [evL_at (fpart Tryz.f9 [1,1,0,1,0,0]) hL]
    have hi : ((i : Int) < (l.length : Int)) := by omega
    have hi0' : ¬ ((i : Int) < 0) := by omega
    have hdr : l.drop i = (l[i]'(by omega)) :: l.drop (i + 1) := List.drop_eq_getElem_cons (by omega)
    have hx : (l.map tgV)[i]? = some (tgV (l[i]'(by omega))) := by rw [List.getElem?_map, List.getElem?_eq_getElem (by omega)]; rfl
    have hw1 := wrap_i64 (n := (i : Int) + 1) ⟨by omega, by omega⟩
    have key := fun e bx => ih (i + 1) e bx (by omega)
    have cast1 : ((i + 1 : Nat) : Int) = (i : Int) + 1 := by omega
    rw [cast1] at key
    rw [hdr, List.all_cons]
    generalize l[i]'(by omega) = x at *
    generalize (l.drop (i + 1)).all plTg = v at *
    generalize l.map tgV = xs at *
    obtain ⟨xk, xkey, xev, xnm, xn, xm⟩ := x
    obtain ⟨xd, xcl, xat⟩ := xkey
    obtain ⟨yd, yc, yn⟩ := xev
    have l1 := len_str xnm
    have l2 := len_str xcl
    have l3 := len_str xat
    have l4 := len_str yc
    have l5 := len_str yn
    unfold tgV at hx
    simp only at hx
    obtain ⟨tu, htu⟩ := VLs
    obtain ⟨tr, htr⟩ := TRs
    obtain ⟨tk, hky⟩ := KYs
    obtain ⟨te, hev1⟩ := EVs
    obtain ⟨tg, htg⟩ := TG_s
    obtain ⟨tp, hsp⟩ := SPs
    obtain ⟨tl, hrl⟩ := RLs
    by_cases c0 : ((xnm.length : Int) > 100)
    · rw [show plTg ⟨xk, (xd, xcl, xat), (yd, yc, yn), xnm, xn, xm⟩ = false by unfold plTg; simp only [decide_eq_false_iff_not]; intro h; have := h.1; omega, Bool.false_and]
      obtain ⟨ev, eo, so, co, ⟨hev, hco⟩, R⟩ := RULES CC; rw [← hev]
      skip
      simp only [fpart, part', Tryz.f9, Option.getD]
      simp (maxSteps := 5000000) only [SA, SB, SD, R, guardAt, binP, intP, indexAddrP, elemsOf, readCells, lenP, lenAt, resultsP, resultP, oneOr, reduceCtorEq, reduceIte, Nat.reduceEqDiff, Nat.reduceAdd, Nat.zero_add, Nat.reduceMul, Nat.reduceLT, Nat.reduceLeDiff, Int.reduceLT, Int.reduceNeg, Int.reduceLE, appendP, appendAt, letGo, setLoc, locVal, Int.reduceToNat, boxCells, und, TG, SE, SC, TGf, SPf, List.getElem?_concat_length, List.getElem?_cons_zero, List.getElem?_cons_succ, List.take_nil, unP, htu, htr, hky, hev1, htg, hsp, hrl, loadR, loadP, lay, List.take_succ_cons, List.take_zero, List.drop_nil, List.filter_nil, List.cons_append, Int.reduceBEq, Int.reduceBNe, Int.reduceGT, Int.reduceGE, Bool.not_true, Bool.not_false, e1, es, el, ei, hi, hi0', hx, l1, l2, l3, l4, l5, c0]
      exact ⟨_, _, .inr ⟨rfl, rfl, by simp (maxSteps := 5000000) only [SA, SB, SD, R, guardAt, binP, intP, indexAddrP, elemsOf, readCells, lenP, lenAt, resultsP, resultP, oneOr, reduceCtorEq, reduceIte, Nat.reduceEqDiff, Nat.reduceAdd, Nat.zero_add, Nat.reduceMul, Nat.reduceLT, Nat.reduceLeDiff, Int.reduceLT, Int.reduceNeg, Int.reduceLE, appendP, appendAt, letGo, setLoc, locVal, Int.reduceToNat, boxCells, und]⟩⟩
    by_cases c1 : ((xcl.length : Int) > 100)
    · rw [show plTg ⟨xk, (xd, xcl, xat), (yd, yc, yn), xnm, xn, xm⟩ = false by unfold plTg; simp only [decide_eq_false_iff_not]; intro h; have := h.2.1; omega, Bool.false_and]
      obtain ⟨ev, eo, so, co, ⟨hev, hco⟩, R⟩ := RULES CC; rw [← hev]
      skip
      simp only [fpart, part', Tryz.f9, Option.getD]
      simp (maxSteps := 5000000) only [SA, SB, SD, R, guardAt, binP, intP, indexAddrP, elemsOf, readCells, lenP, lenAt, resultsP, resultP, oneOr, reduceCtorEq, reduceIte, Nat.reduceEqDiff, Nat.reduceAdd, Nat.zero_add, Nat.reduceMul, Nat.reduceLT, Nat.reduceLeDiff, Int.reduceLT, Int.reduceNeg, Int.reduceLE, appendP, appendAt, letGo, setLoc, locVal, Int.reduceToNat, boxCells, und, TG, SE, SC, TGf, SPf, List.getElem?_concat_length, List.getElem?_cons_zero, List.getElem?_cons_succ, List.take_nil, unP, htu, htr, hky, hev1, htg, hsp, hrl, loadR, loadP, lay, List.take_succ_cons, List.take_zero, List.drop_nil, List.filter_nil, List.cons_append, Int.reduceBEq, Int.reduceBNe, Int.reduceGT, Int.reduceGE, Bool.not_true, Bool.not_false, e1, es, el, ei, hi, hi0', hx, l1, l2, l3, l4, l5, c0, c1]
      exact ⟨_, _, .inr ⟨rfl, rfl, by simp (maxSteps := 5000000) only [SA, SB, SD, R, guardAt, binP, intP, indexAddrP, elemsOf, readCells, lenP, lenAt, resultsP, resultP, oneOr, reduceCtorEq, reduceIte, Nat.reduceEqDiff, Nat.reduceAdd, Nat.zero_add, Nat.reduceMul, Nat.reduceLT, Nat.reduceLeDiff, Int.reduceLT, Int.reduceNeg, Int.reduceLE, appendP, appendAt, letGo, setLoc, locVal, Int.reduceToNat, boxCells, und]⟩⟩
    by_cases c2 : ((xat.length : Int) > 100)
    · rw [show plTg ⟨xk, (xd, xcl, xat), (yd, yc, yn), xnm, xn, xm⟩ = false by unfold plTg; simp only [decide_eq_false_iff_not]; intro h; have := h.2.2.1; omega, Bool.false_and]
      obtain ⟨ev, eo, so, co, ⟨hev, hco⟩, R⟩ := RULES CC; rw [← hev]
      skip
      simp only [fpart, part', Tryz.f9, Option.getD]
      simp (maxSteps := 5000000) only [SA, SB, SD, R, guardAt, binP, intP, indexAddrP, elemsOf, readCells, lenP, lenAt, resultsP, resultP, oneOr, reduceCtorEq, reduceIte, Nat.reduceEqDiff, Nat.reduceAdd, Nat.zero_add, Nat.reduceMul, Nat.reduceLT, Nat.reduceLeDiff, Int.reduceLT, Int.reduceNeg, Int.reduceLE, appendP, appendAt, letGo, setLoc, locVal, Int.reduceToNat, boxCells, und, TG, SE, SC, TGf, SPf, List.getElem?_concat_length, List.getElem?_cons_zero, List.getElem?_cons_succ, List.take_nil, unP, htu, htr, hky, hev1, htg, hsp, hrl, loadR, loadP, lay, List.take_succ_cons, List.take_zero, List.drop_nil, List.filter_nil, List.cons_append, Int.reduceBEq, Int.reduceBNe, Int.reduceGT, Int.reduceGE, Bool.not_true, Bool.not_false, e1, es, el, ei, hi, hi0', hx, l1, l2, l3, l4, l5, c0, c1, c2]
      exact ⟨_, _, .inr ⟨rfl, rfl, by simp (maxSteps := 5000000) only [SA, SB, SD, R, guardAt, binP, intP, indexAddrP, elemsOf, readCells, lenP, lenAt, resultsP, resultP, oneOr, reduceCtorEq, reduceIte, Nat.reduceEqDiff, Nat.reduceAdd, Nat.zero_add, Nat.reduceMul, Nat.reduceLT, Nat.reduceLeDiff, Int.reduceLT, Int.reduceNeg, Int.reduceLE, appendP, appendAt, letGo, setLoc, locVal, Int.reduceToNat, boxCells, und]⟩⟩
    by_cases c3 : ((yc.length : Int) > 100)
    · rw [show plTg ⟨xk, (xd, xcl, xat), (yd, yc, yn), xnm, xn, xm⟩ = false by unfold plTg; simp only [decide_eq_false_iff_not]; intro h; have := h.2.2.2.1; omega, Bool.false_and]
      obtain ⟨ev, eo, so, co, ⟨hev, hco⟩, R⟩ := RULES CC; rw [← hev]
      skip
      simp only [fpart, part', Tryz.f9, Option.getD]
      simp (maxSteps := 5000000) only [SA, SB, SD, R, guardAt, binP, intP, indexAddrP, elemsOf, readCells, lenP, lenAt, resultsP, resultP, oneOr, reduceCtorEq, reduceIte, Nat.reduceEqDiff, Nat.reduceAdd, Nat.zero_add, Nat.reduceMul, Nat.reduceLT, Nat.reduceLeDiff, Int.reduceLT, Int.reduceNeg, Int.reduceLE, appendP, appendAt, letGo, setLoc, locVal, Int.reduceToNat, boxCells, und, TG, SE, SC, TGf, SPf, List.getElem?_concat_length, List.getElem?_cons_zero, List.getElem?_cons_succ, List.take_nil, unP, htu, htr, hky, hev1, htg, hsp, hrl, loadR, loadP, lay, List.take_succ_cons, List.take_zero, List.drop_nil, List.filter_nil, List.cons_append, Int.reduceBEq, Int.reduceBNe, Int.reduceGT, Int.reduceGE, Bool.not_true, Bool.not_false, e1, es, el, ei, hi, hi0', hx, l1, l2, l3, l4, l5, c0, c1, c2, c3]
      exact ⟨_, _, .inr ⟨rfl, rfl, by simp (maxSteps := 5000000) only [SA, SB, SD, R, guardAt, binP, intP, indexAddrP, elemsOf, readCells, lenP, lenAt, resultsP, resultP, oneOr, reduceCtorEq, reduceIte, Nat.reduceEqDiff, Nat.reduceAdd, Nat.zero_add, Nat.reduceMul, Nat.reduceLT, Nat.reduceLeDiff, Int.reduceLT, Int.reduceNeg, Int.reduceLE, appendP, appendAt, letGo, setLoc, locVal, Int.reduceToNat, boxCells, und]⟩⟩
    by_cases c4 : ((yn.length : Int) > 100)
    · rw [show plTg ⟨xk, (xd, xcl, xat), (yd, yc, yn), xnm, xn, xm⟩ = false by unfold plTg; simp only [decide_eq_false_iff_not]; intro h; have := h.2.2.2.2; omega, Bool.false_and]
      obtain ⟨ev, eo, so, co, ⟨hev, hco⟩, R⟩ := RULES CC; rw [← hev]
      skip
      simp only [fpart, part', Tryz.f9, Option.getD]
      simp (maxSteps := 5000000) only [SA, SB, SD, R, guardAt, binP, intP, indexAddrP, elemsOf, readCells, lenP, lenAt, resultsP, resultP, oneOr, reduceCtorEq, reduceIte, Nat.reduceEqDiff, Nat.reduceAdd, Nat.zero_add, Nat.reduceMul, Nat.reduceLT, Nat.reduceLeDiff, Int.reduceLT, Int.reduceNeg, Int.reduceLE, appendP, appendAt, letGo, setLoc, locVal, Int.reduceToNat, boxCells, und, TG, SE, SC, TGf, SPf, List.getElem?_concat_length, List.getElem?_cons_zero, List.getElem?_cons_succ, List.take_nil, unP, htu, htr, hky, hev1, htg, hsp, hrl, loadR, loadP, lay, List.take_succ_cons, List.take_zero, List.drop_nil, List.filter_nil, List.cons_append, Int.reduceBEq, Int.reduceBNe, Int.reduceGT, Int.reduceGE, Bool.not_true, Bool.not_false, e1, es, el, ei, hi, hi0', hx, l1, l2, l3, l4, l5, c0, c1, c2, c3, c4]
      exact ⟨_, _, .inr ⟨rfl, rfl, by simp (maxSteps := 5000000) only [SA, SB, SD, R, guardAt, binP, intP, indexAddrP, elemsOf, readCells, lenP, lenAt, resultsP, resultP, oneOr, reduceCtorEq, reduceIte, Nat.reduceEqDiff, Nat.reduceAdd, Nat.zero_add, Nat.reduceMul, Nat.reduceLT, Nat.reduceLeDiff, Int.reduceLT, Int.reduceNeg, Int.reduceLE, appendP, appendAt, letGo, setLoc, locVal, Int.reduceToNat, boxCells, und]⟩⟩
    rw [show plTg ⟨xk, (xd, xcl, xat), (yd, yc, yn), xnm, xn, xm⟩ = true by unfold plTg; simp only [decide_eq_true_eq]; exact ⟨by omega, by omega, by omega, by omega, by omega⟩, Bool.true_and]
    apply PPl.app
    obtain ⟨ev, eo, so, co, ⟨hev, hco⟩, R⟩ := RULES CC; rw [← hev]
    rw [← hev] at key
    skip
    simp only [fpart, part', Tryz.f9, Option.getD]
    simp (maxSteps := 5000000) only [SA, SB, SD, R, guardAt, binP, intP, indexAddrP, elemsOf, readCells, lenP, lenAt, resultsP, resultP, oneOr, reduceCtorEq, reduceIte, Nat.reduceEqDiff, Nat.reduceAdd, Nat.zero_add, Nat.reduceMul, Nat.reduceLT, Nat.reduceLeDiff, Int.reduceLT, Int.reduceNeg, Int.reduceLE, appendP, appendAt, letGo, setLoc, locVal, Int.reduceToNat, boxCells, und, TG, SE, SC, TGf, SPf, List.getElem?_concat_length, List.getElem?_cons_zero, List.getElem?_cons_succ, List.take_nil, unP, htu, htr, hky, hev1, htg, hsp, hrl, loadR, loadP, lay, List.take_succ_cons, List.take_zero, List.drop_nil, List.filter_nil, List.cons_append, Int.reduceBEq, Int.reduceBNe, Int.reduceGT, Int.reduceGE, Bool.not_true, Bool.not_false, e1, es, el, ei, hi, hi0', hx, hw1, l1, l2, l3, l4, l5, c0, c1, c2, c3, c4]
    refine key _ _ ?_ ?_ ?_ ?_
    all_goals simp (maxSteps := 5000000) only [SA, SB, SD, R, guardAt, binP, intP, indexAddrP, elemsOf, readCells, lenP, lenAt, resultsP, resultP, oneOr, reduceCtorEq, reduceIte, Nat.reduceEqDiff, Nat.reduceAdd, Nat.zero_add, Nat.reduceMul, Nat.reduceLT, Nat.reduceLeDiff, Int.reduceLT, Int.reduceNeg, Int.reduceLE, appendP, appendAt, letGo, setLoc, locVal, Int.reduceToNat, boxCells, und, e1, es, el, ei]
theorem loop_do (L : Code) (hL : L = fpart Tryz.f9 [1,1,1,0,1,0]) (l : List Sp) (hl : l.length ≤ 12) : ∀ (k i : Nat) (e : List PV) (bx : List PBox), i + k = l.length →
    getT e 1 = .bp 0 0 → getT e 70 = .sl (l.map spV) → getT e 71 = .int .i64 l.length → getT e 72 = .int .i64 i → PPl 2 bx ((l.drop i).all plSp) (evL CC L ⟨e, bx⟩) := by
  intro k
  induction k with
  | zero =>
    intro i e bx hi0 e1 es el ei
    rw [evL_at (fpart Tryz.f9 [1,1,1,0,1,0,0]) hL]
    have hi : ¬ ((i : Int) < (l.length : Int)) := by omega
    rw [List.drop_eq_nil_of_le (by omega)]
    rw [List.all_nil]
    obtain ⟨tu, htu⟩ := VLs
    obtain ⟨tr, htr⟩ := TRs
    obtain ⟨tk, hky⟩ := KYs
    obtain ⟨te, hev1⟩ := EVs
    obtain ⟨tg, htg⟩ := TG_s
    obtain ⟨tp, hsp⟩ := SPs
    obtain ⟨tl, hrl⟩ := RLs
    generalize l.map spV = xs at *
    obtain ⟨ev, eo, so, co, ⟨hev, hco⟩, R⟩ := RULES CC; rw [← hev]
    simp only [fpart, part', Tryz.f9, Option.getD]
    simp (maxSteps := 5000000) only [SA, SB, SD, R, guardAt, binP, intP, indexAddrP, elemsOf, readCells, lenP, lenAt, resultsP, resultP, oneOr, reduceCtorEq, reduceIte, Nat.reduceEqDiff, Nat.reduceAdd, Nat.zero_add, Nat.reduceMul, Nat.reduceLT, Nat.reduceLeDiff, Int.reduceLT, Int.reduceNeg, Int.reduceLE, appendP, appendAt, letGo, setLoc, locVal, Int.reduceToNat, boxCells, und, TG, SE, SC, TGf, SPf, List.getElem?_concat_length, List.getElem?_cons_zero, List.getElem?_cons_succ, List.take_nil, unP, htu, htr, hky, hev1, htg, hsp, hrl, loadR, loadP, lay, List.take_succ_cons, List.take_zero, List.drop_nil, List.filter_nil, List.cons_append, Int.reduceBEq, Int.reduceBNe, Int.reduceGT, Int.reduceGE, Bool.not_true, Bool.not_false, e1, es, el, ei, hi]
    exact ⟨_, [], .inl ⟨rfl, by rw [List.append_nil], by simp (maxSteps := 5000000) only [SA, SB, SD, R, guardAt, binP, intP, indexAddrP, elemsOf, readCells, lenP, lenAt, resultsP, resultP, oneOr, reduceCtorEq, reduceIte, Nat.reduceEqDiff, Nat.reduceAdd, Nat.zero_add, Nat.reduceMul, Nat.reduceLT, Nat.reduceLeDiff, Int.reduceLT, Int.reduceNeg, Int.reduceLE, appendP, appendAt, letGo, setLoc, locVal, Int.reduceToNat, boxCells, und, e1]⟩⟩
  | succ k ih =>
    intro i e bx hi0 e1 es el ei
    rw [evL_at (fpart Tryz.f9 [1,1,1,0,1,0,0]) hL]
    have hi : ((i : Int) < (l.length : Int)) := by omega
    have hi0' : ¬ ((i : Int) < 0) := by omega
    have hdr : l.drop i = (l[i]'(by omega)) :: l.drop (i + 1) := List.drop_eq_getElem_cons (by omega)
    have hx : (l.map spV)[i]? = some (spV (l[i]'(by omega))) := by rw [List.getElem?_map, List.getElem?_eq_getElem (by omega)]; rfl
    have hw1 := wrap_i64 (n := (i : Int) + 1) ⟨by omega, by omega⟩
    have key := fun e bx => ih (i + 1) e bx (by omega)
    have cast1 : ((i + 1 : Nat) : Int) = (i : Int) + 1 := by omega
    rw [cast1] at key
    rw [hdr, List.all_cons]
    generalize l[i]'(by omega) = x at *
    generalize (l.drop (i + 1)).all plSp = v at *
    generalize l.map spV = xs at *
    obtain ⟨xk, xkey, xnm, xt⟩ := x
    obtain ⟨xd, xcl, xat⟩ := xkey
    have l1 := len_str xnm
    have l2 := len_str xcl
    have l3 := len_str xat
    have hmd := op_modest xt 220 30 (by decide) (by decide)
    obtain ⟨res, hres⟩ : ∃ res, res = mdT xt 220 30 := ⟨_, rfl⟩
    rw [← hres] at hmd
    have hxt : ∃ k n m nm v key kids, xt = Tr.mk k n m nm v key kids := by obtain ⟨k, n, m, nm, v, key, kids⟩ := xt; exact ⟨k, n, m, nm, v, key, kids, rfl⟩
    obtain ⟨zk, zn, zm, znm, zv, zkey, zkids, hxt⟩ := hxt
    unfold spV trC at hx
    simp only at hx
    rw [hxt] at hx hmd
    unfold trV at hx hmd
    simp only [SA, List.cons_append, List.nil_append] at hx hmd
    generalize trVs zkids = zs at *
    obtain ⟨tu, htu⟩ := VLs
    obtain ⟨tr, htr⟩ := TRs
    obtain ⟨tk, hky⟩ := KYs
    obtain ⟨te, hev1⟩ := EVs
    obtain ⟨tg, htg⟩ := TG_s
    obtain ⟨tp, hsp⟩ := SPs
    obtain ⟨tl, hrl⟩ := RLs
    by_cases c0 : ((xnm.length : Int) > 100)
    · rw [show plSp ⟨xk, (xd, xcl, xat), xnm, xt⟩ = false by unfold plSp; simp only [decide_eq_false_iff_not]; intro h; have := h.1; omega, Bool.false_and]
      obtain ⟨ev, eo, so, co, ⟨hev, hco⟩, R⟩ := RULES CC; rw [← hev]
      rw [← hco] at hmd
      simp only [fpart, part', Tryz.f9, Option.getD]
      simp (maxSteps := 5000000) only [SA, SB, SD, R, guardAt, binP, intP, indexAddrP, elemsOf, readCells, lenP, lenAt, resultsP, resultP, oneOr, reduceCtorEq, reduceIte, Nat.reduceEqDiff, Nat.reduceAdd, Nat.zero_add, Nat.reduceMul, Nat.reduceLT, Nat.reduceLeDiff, Int.reduceLT, Int.reduceNeg, Int.reduceLE, appendP, appendAt, letGo, setLoc, locVal, Int.reduceToNat, boxCells, und, TG, SE, SC, TGf, SPf, List.getElem?_concat_length, List.getElem?_cons_zero, List.getElem?_cons_succ, List.take_nil, unP, htu, htr, hky, hev1, htg, hsp, hrl, loadR, loadP, lay, List.take_succ_cons, List.take_zero, List.drop_nil, List.filter_nil, List.cons_append, Int.reduceBEq, Int.reduceBNe, Int.reduceGT, Int.reduceGE, Bool.not_true, Bool.not_false, e1, es, el, ei, hi, hi0', hx, l1, l2, l3, hmd, c0]
      exact ⟨_, _, .inr ⟨rfl, rfl, by simp (maxSteps := 5000000) only [SA, SB, SD, R, guardAt, binP, intP, indexAddrP, elemsOf, readCells, lenP, lenAt, resultsP, resultP, oneOr, reduceCtorEq, reduceIte, Nat.reduceEqDiff, Nat.reduceAdd, Nat.zero_add, Nat.reduceMul, Nat.reduceLT, Nat.reduceLeDiff, Int.reduceLT, Int.reduceNeg, Int.reduceLE, appendP, appendAt, letGo, setLoc, locVal, Int.reduceToNat, boxCells, und]⟩⟩
    by_cases c1 : ((xcl.length : Int) > 100)
    · rw [show plSp ⟨xk, (xd, xcl, xat), xnm, xt⟩ = false by unfold plSp; simp only [decide_eq_false_iff_not]; intro h; have := h.2.1; omega, Bool.false_and]
      obtain ⟨ev, eo, so, co, ⟨hev, hco⟩, R⟩ := RULES CC; rw [← hev]
      rw [← hco] at hmd
      simp only [fpart, part', Tryz.f9, Option.getD]
      simp (maxSteps := 5000000) only [SA, SB, SD, R, guardAt, binP, intP, indexAddrP, elemsOf, readCells, lenP, lenAt, resultsP, resultP, oneOr, reduceCtorEq, reduceIte, Nat.reduceEqDiff, Nat.reduceAdd, Nat.zero_add, Nat.reduceMul, Nat.reduceLT, Nat.reduceLeDiff, Int.reduceLT, Int.reduceNeg, Int.reduceLE, appendP, appendAt, letGo, setLoc, locVal, Int.reduceToNat, boxCells, und, TG, SE, SC, TGf, SPf, List.getElem?_concat_length, List.getElem?_cons_zero, List.getElem?_cons_succ, List.take_nil, unP, htu, htr, hky, hev1, htg, hsp, hrl, loadR, loadP, lay, List.take_succ_cons, List.take_zero, List.drop_nil, List.filter_nil, List.cons_append, Int.reduceBEq, Int.reduceBNe, Int.reduceGT, Int.reduceGE, Bool.not_true, Bool.not_false, e1, es, el, ei, hi, hi0', hx, l1, l2, l3, hmd, c0, c1]
      exact ⟨_, _, .inr ⟨rfl, rfl, by simp (maxSteps := 5000000) only [SA, SB, SD, R, guardAt, binP, intP, indexAddrP, elemsOf, readCells, lenP, lenAt, resultsP, resultP, oneOr, reduceCtorEq, reduceIte, Nat.reduceEqDiff, Nat.reduceAdd, Nat.zero_add, Nat.reduceMul, Nat.reduceLT, Nat.reduceLeDiff, Int.reduceLT, Int.reduceNeg, Int.reduceLE, appendP, appendAt, letGo, setLoc, locVal, Int.reduceToNat, boxCells, und]⟩⟩
    by_cases c2 : ((xat.length : Int) > 100)
    · rw [show plSp ⟨xk, (xd, xcl, xat), xnm, xt⟩ = false by unfold plSp; simp only [decide_eq_false_iff_not]; intro h; have := h.2.2.1; omega, Bool.false_and]
      obtain ⟨ev, eo, so, co, ⟨hev, hco⟩, R⟩ := RULES CC; rw [← hev]
      rw [← hco] at hmd
      simp only [fpart, part', Tryz.f9, Option.getD]
      simp (maxSteps := 5000000) only [SA, SB, SD, R, guardAt, binP, intP, indexAddrP, elemsOf, readCells, lenP, lenAt, resultsP, resultP, oneOr, reduceCtorEq, reduceIte, Nat.reduceEqDiff, Nat.reduceAdd, Nat.zero_add, Nat.reduceMul, Nat.reduceLT, Nat.reduceLeDiff, Int.reduceLT, Int.reduceNeg, Int.reduceLE, appendP, appendAt, letGo, setLoc, locVal, Int.reduceToNat, boxCells, und, TG, SE, SC, TGf, SPf, List.getElem?_concat_length, List.getElem?_cons_zero, List.getElem?_cons_succ, List.take_nil, unP, htu, htr, hky, hev1, htg, hsp, hrl, loadR, loadP, lay, List.take_succ_cons, List.take_zero, List.drop_nil, List.filter_nil, List.cons_append, Int.reduceBEq, Int.reduceBNe, Int.reduceGT, Int.reduceGE, Bool.not_true, Bool.not_false, e1, es, el, ei, hi, hi0', hx, l1, l2, l3, hmd, c0, c1, c2]
      exact ⟨_, _, .inr ⟨rfl, rfl, by simp (maxSteps := 5000000) only [SA, SB, SD, R, guardAt, binP, intP, indexAddrP, elemsOf, readCells, lenP, lenAt, resultsP, resultP, oneOr, reduceCtorEq, reduceIte, Nat.reduceEqDiff, Nat.reduceAdd, Nat.zero_add, Nat.reduceMul, Nat.reduceLT, Nat.reduceLeDiff, Int.reduceLT, Int.reduceNeg, Int.reduceLE, appendP, appendAt, letGo, setLoc, locVal, Int.reduceToNat, boxCells, und]⟩⟩
    by_cases c3 : res < 0
    · rw [show plSp ⟨xk, (xd, xcl, xat), xnm, xt⟩ = false by unfold plSp; simp only [decide_eq_false_iff_not]; intro h; have := h.2.2.2; omega, Bool.false_and]
      obtain ⟨ev, eo, so, co, ⟨hev, hco⟩, R⟩ := RULES CC; rw [← hev]
      rw [← hco] at hmd
      simp only [fpart, part', Tryz.f9, Option.getD]
      simp (maxSteps := 5000000) only [SA, SB, SD, R, guardAt, binP, intP, indexAddrP, elemsOf, readCells, lenP, lenAt, resultsP, resultP, oneOr, reduceCtorEq, reduceIte, Nat.reduceEqDiff, Nat.reduceAdd, Nat.zero_add, Nat.reduceMul, Nat.reduceLT, Nat.reduceLeDiff, Int.reduceLT, Int.reduceNeg, Int.reduceLE, appendP, appendAt, letGo, setLoc, locVal, Int.reduceToNat, boxCells, und, TG, SE, SC, TGf, SPf, List.getElem?_concat_length, List.getElem?_cons_zero, List.getElem?_cons_succ, List.take_nil, unP, htu, htr, hky, hev1, htg, hsp, hrl, loadR, loadP, lay, List.take_succ_cons, List.take_zero, List.drop_nil, List.filter_nil, List.cons_append, Int.reduceBEq, Int.reduceBNe, Int.reduceGT, Int.reduceGE, Bool.not_true, Bool.not_false, e1, es, el, ei, hi, hi0', hx, l1, l2, l3, hmd, c0, c1, c2, c3]
      exact ⟨_, _, .inr ⟨rfl, rfl, by simp (maxSteps := 5000000) only [SA, SB, SD, R, guardAt, binP, intP, indexAddrP, elemsOf, readCells, lenP, lenAt, resultsP, resultP, oneOr, reduceCtorEq, reduceIte, Nat.reduceEqDiff, Nat.reduceAdd, Nat.zero_add, Nat.reduceMul, Nat.reduceLT, Nat.reduceLeDiff, Int.reduceLT, Int.reduceNeg, Int.reduceLE, appendP, appendAt, letGo, setLoc, locVal, Int.reduceToNat, boxCells, und]⟩⟩
    rw [show plSp ⟨xk, (xd, xcl, xat), xnm, xt⟩ = true by unfold plSp; simp only [decide_eq_true_eq]; exact ⟨by omega, by omega, by omega, by omega⟩, Bool.true_and]
    apply PPl.app
    obtain ⟨ev, eo, so, co, ⟨hev, hco⟩, R⟩ := RULES CC; rw [← hev]
    rw [← hev] at key
    rw [← hco] at hmd
    simp only [fpart, part', Tryz.f9, Option.getD]
    simp (maxSteps := 5000000) only [SA, SB, SD, R, guardAt, binP, intP, indexAddrP, elemsOf, readCells, lenP, lenAt, resultsP, resultP, oneOr, reduceCtorEq, reduceIte, Nat.reduceEqDiff, Nat.reduceAdd, Nat.zero_add, Nat.reduceMul, Nat.reduceLT, Nat.reduceLeDiff, Int.reduceLT, Int.reduceNeg, Int.reduceLE, appendP, appendAt, letGo, setLoc, locVal, Int.reduceToNat, boxCells, und, TG, SE, SC, TGf, SPf, List.getElem?_concat_length, List.getElem?_cons_zero, List.getElem?_cons_succ, List.take_nil, unP, htu, htr, hky, hev1, htg, hsp, hrl, loadR, loadP, lay, List.take_succ_cons, List.take_zero, List.drop_nil, List.filter_nil, List.cons_append, Int.reduceBEq, Int.reduceBNe, Int.reduceGT, Int.reduceGE, Bool.not_true, Bool.not_false, e1, es, el, ei, hi, hi0', hx, hw1, l1, l2, l3, hmd, c0, c1, c2, c3]
    refine key _ _ ?_ ?_ ?_ ?_
    all_goals simp (maxSteps := 5000000) only [SA, SB, SD, R, guardAt, binP, intP, indexAddrP, elemsOf, readCells, lenP, lenAt, resultsP, resultP, oneOr, reduceCtorEq, reduceIte, Nat.reduceEqDiff, Nat.reduceAdd, Nat.zero_add, Nat.reduceMul, Nat.reduceLT, Nat.reduceLeDiff, Int.reduceLT, Int.reduceNeg, Int.reduceLE, appendP, appendAt, letGo, setLoc, locVal, Int.reduceToNat, boxCells, und, e1, es, el, ei]
theorem call_plain (r : Rl) : ∃ bx, callL CC 9 [rlV r] [] = some (.ret (.bool (plRl r)), bx) := by
  obtain ⟨nm, pr, on, ife, dos⟩ := r
  have l1 := len_str nm
  have lon : (on.map tgV).length = on.length := List.length_map _
  have ldo : (dos.map spV).length = dos.length := List.length_map _
  have hmd := op_modest ife 220 30 (by decide) (by decide)
  obtain ⟨res, hres⟩ : ∃ res, res = mdT ife 220 30 := ⟨_, rfl⟩
  rw [← hres] at hmd
  unfold plRl rlV trC
  simp only
  rw [← hres]
  obtain ⟨zk, zn, zm, znm, zv, zkey, zkids⟩ := ife
  unfold trV at hmd ⊢
  simp only [SA, List.cons_append, List.nil_append] at hmd ⊢
  generalize trVs zkids = zs at *
  obtain ⟨tu, htu⟩ := VLs
  obtain ⟨tr, htr⟩ := TRs
  obtain ⟨tk, hky⟩ := KYs
  obtain ⟨te, hev1⟩ := EVs
  obtain ⟨tg, htg⟩ := TG_s
  obtain ⟨tp, hsp⟩ := SPs
  obtain ⟨tl, hrl⟩ := RLs
  by_cases c0 : (nm.length : Int) > 100
  · rw [decide_eq_false (by omega), Bool.false_and, Bool.false_and]
    rw [callL_enter (fn := Tryz.f9) (c := Tryz.f9.body.getD .skip) rfl rfl fat_L30_plain rfl ok_L30_plain (Nat.le_of_ble_eq_true rfl)]
    generalize on.map tgV = xs at *
    generalize dos.map spV = ys at *
    obtain ⟨ev, eo, so, co, ⟨hev, hco⟩, R⟩ := RULES CC; rw [← hev]
    skip
    simp only [fpart, part', Tryz.f9, Option.getD]
    simp (maxSteps := 5000000) only [SA, SB, SD, R, guardAt, binP, intP, indexAddrP, elemsOf, readCells, lenP, lenAt, resultsP, resultP, oneOr, reduceCtorEq, reduceIte, Nat.reduceEqDiff, Nat.reduceAdd, Nat.zero_add, Nat.reduceMul, Nat.reduceLT, Nat.reduceLeDiff, Int.reduceLT, Int.reduceNeg, Int.reduceLE, appendP, appendAt, letGo, setLoc, locVal, Int.reduceToNat, boxCells, und, TG, SE, SC, TGf, SPf, List.getElem?_concat_length, List.getElem?_cons_zero, List.getElem?_cons_succ, List.take_nil, unP, htu, htr, hky, hev1, htg, hsp, hrl, loadR, loadP, lay, List.take_succ_cons, List.take_zero, List.drop_nil, List.filter_nil, List.cons_append, Int.reduceBEq, Int.reduceBNe, Int.reduceGT, Int.reduceGE, Bool.not_true, Bool.not_false, l1, lon, ldo, hmd, c0]
    exact ⟨_, rfl⟩
  by_cases c1 : (on.length : Int) > 12
  · rw [decide_eq_false (by omega), Bool.false_and, Bool.false_and]
    rw [callL_enter (fn := Tryz.f9) (c := Tryz.f9.body.getD .skip) rfl rfl fat_L30_plain rfl ok_L30_plain (Nat.le_of_ble_eq_true rfl)]
    generalize on.map tgV = xs at *
    generalize dos.map spV = ys at *
    obtain ⟨ev, eo, so, co, ⟨hev, hco⟩, R⟩ := RULES CC; rw [← hev]
    skip
    simp only [fpart, part', Tryz.f9, Option.getD]
    simp (maxSteps := 5000000) only [SA, SB, SD, R, guardAt, binP, intP, indexAddrP, elemsOf, readCells, lenP, lenAt, resultsP, resultP, oneOr, reduceCtorEq, reduceIte, Nat.reduceEqDiff, Nat.reduceAdd, Nat.zero_add, Nat.reduceMul, Nat.reduceLT, Nat.reduceLeDiff, Int.reduceLT, Int.reduceNeg, Int.reduceLE, appendP, appendAt, letGo, setLoc, locVal, Int.reduceToNat, boxCells, und, TG, SE, SC, TGf, SPf, List.getElem?_concat_length, List.getElem?_cons_zero, List.getElem?_cons_succ, List.take_nil, unP, htu, htr, hky, hev1, htg, hsp, hrl, loadR, loadP, lay, List.take_succ_cons, List.take_zero, List.drop_nil, List.filter_nil, List.cons_append, Int.reduceBEq, Int.reduceBNe, Int.reduceGT, Int.reduceGE, Bool.not_true, Bool.not_false, l1, lon, ldo, hmd, c0, c1]
    exact ⟨_, rfl⟩
  by_cases c2 : (dos.length : Int) > 12
  · rw [decide_eq_false (by omega), Bool.false_and, Bool.false_and]
    rw [callL_enter (fn := Tryz.f9) (c := Tryz.f9.body.getD .skip) rfl rfl fat_L30_plain rfl ok_L30_plain (Nat.le_of_ble_eq_true rfl)]
    generalize on.map tgV = xs at *
    generalize dos.map spV = ys at *
    obtain ⟨ev, eo, so, co, ⟨hev, hco⟩, R⟩ := RULES CC; rw [← hev]
    skip
    simp only [fpart, part', Tryz.f9, Option.getD]
    simp (maxSteps := 5000000) only [SA, SB, SD, R, guardAt, binP, intP, indexAddrP, elemsOf, readCells, lenP, lenAt, resultsP, resultP, oneOr, reduceCtorEq, reduceIte, Nat.reduceEqDiff, Nat.reduceAdd, Nat.zero_add, Nat.reduceMul, Nat.reduceLT, Nat.reduceLeDiff, Int.reduceLT, Int.reduceNeg, Int.reduceLE, appendP, appendAt, letGo, setLoc, locVal, Int.reduceToNat, boxCells, und, TG, SE, SC, TGf, SPf, List.getElem?_concat_length, List.getElem?_cons_zero, List.getElem?_cons_succ, List.take_nil, unP, htu, htr, hky, hev1, htg, hsp, hrl, loadR, loadP, lay, List.take_succ_cons, List.take_zero, List.drop_nil, List.filter_nil, List.cons_append, Int.reduceBEq, Int.reduceBNe, Int.reduceGT, Int.reduceGE, Bool.not_true, Bool.not_false, l1, lon, ldo, hmd, c0, c1, c2]
    exact ⟨_, rfl⟩
  by_cases c3 : res < 0
  · rw [decide_eq_false (by omega), Bool.false_and, Bool.false_and]
    rw [callL_enter (fn := Tryz.f9) (c := Tryz.f9.body.getD .skip) rfl rfl fat_L30_plain rfl ok_L30_plain (Nat.le_of_ble_eq_true rfl)]
    generalize on.map tgV = xs at *
    generalize dos.map spV = ys at *
    obtain ⟨ev, eo, so, co, ⟨hev, hco⟩, R⟩ := RULES CC; rw [← hev]
    rw [← hco] at hmd
    simp only [fpart, part', Tryz.f9, Option.getD]
    simp (maxSteps := 5000000) only [SA, SB, SD, R, guardAt, binP, intP, indexAddrP, elemsOf, readCells, lenP, lenAt, resultsP, resultP, oneOr, reduceCtorEq, reduceIte, Nat.reduceEqDiff, Nat.reduceAdd, Nat.zero_add, Nat.reduceMul, Nat.reduceLT, Nat.reduceLeDiff, Int.reduceLT, Int.reduceNeg, Int.reduceLE, appendP, appendAt, letGo, setLoc, locVal, Int.reduceToNat, boxCells, und, TG, SE, SC, TGf, SPf, List.getElem?_concat_length, List.getElem?_cons_zero, List.getElem?_cons_succ, List.take_nil, unP, htu, htr, hky, hev1, htg, hsp, hrl, loadR, loadP, lay, List.take_succ_cons, List.take_zero, List.drop_nil, List.filter_nil, List.cons_append, Int.reduceBEq, Int.reduceBNe, Int.reduceGT, Int.reduceGE, Bool.not_true, Bool.not_false, l1, lon, ldo, hmd, c0, c1, c2, c3]
    exact ⟨_, rfl⟩
  have hon := fun e bx => loop_on _ rfl on (by omega) on.length 0 e bx (by omega)
  have hdo := fun e bx => loop_do _ rfl dos (by omega) dos.length 0 e bx (by omega)
  rw [List.drop_zero] at hon hdo
  rw [decide_eq_true (by omega), Bool.true_and]
  generalize on.all plTg = v1 at *
  generalize dos.all plSp = v2 at *
  generalize on.map tgV = xs at *
  generalize dos.map spV = ys at *
  rw [callL_enter (fn := Tryz.f9) (c := Tryz.f9.body.getD .skip) rfl rfl fat_L30_plain rfl ok_L30_plain (Nat.le_of_ble_eq_true rfl)]
  obtain ⟨ev, eo, so, co, ⟨hev, hco⟩, R⟩ := RULES CC; rw [← hev]
  rw [← hev] at hon hdo
  rw [← hco] at hmd
  simp only [fpart, part', Tryz.f9, Option.getD] at hon hdo ⊢
  simp (maxSteps := 5000000) only [SA, SB, SD, R, guardAt, binP, intP, indexAddrP, elemsOf, readCells, lenP, lenAt, resultsP, resultP, oneOr, reduceCtorEq, reduceIte, Nat.reduceEqDiff, Nat.reduceAdd, Nat.zero_add, Nat.reduceMul, Nat.reduceLT, Nat.reduceLeDiff, Int.reduceLT, Int.reduceNeg, Int.reduceLE, appendP, appendAt, letGo, setLoc, locVal, Int.reduceToNat, boxCells, und, TG, SE, SC, TGf, SPf, List.getElem?_concat_length, List.getElem?_cons_zero, List.getElem?_cons_succ, List.take_nil, unP, htu, htr, hky, hev1, htg, hsp, hrl, loadR, loadP, lay, List.take_succ_cons, List.take_zero, List.drop_nil, List.filter_nil, List.cons_append, Int.reduceBEq, Int.reduceBNe, Int.reduceGT, Int.reduceGE, Bool.not_true, Bool.not_false, l1, lon, ldo, hmd, c0, c1, c2, c3]
  generalize hE : ev (Code.loop _) _ = z
  have hP : PPl 0 [.cells 32 [.str nm, .int .i64 pr, .sl xs, .int .i64 zk, .int .i64 zn, .int .i64 zm, .str znm, .int .i64 zv.1, .int .i64 zv.2.1, .str zv.2.2, .int .i64 zkey.1, .str zkey.2.1, .str zkey.2.2, .sl zs, .sl ys]] v1 z := by
    rw [← hE]
    refine hon _ _ ?_ ?_ ?_ ?_
    all_goals first | (simp (maxSteps := 5000000) only [SA, SB, SD, R, guardAt, binP, intP, indexAddrP, elemsOf, readCells, lenP, lenAt, resultsP, resultP, oneOr, reduceCtorEq, reduceIte, Nat.reduceEqDiff, Nat.reduceAdd, Nat.zero_add, Nat.reduceMul, Nat.reduceLT, Nat.reduceLeDiff, Int.reduceLT, Int.reduceNeg, Int.reduceLE, appendP, appendAt, letGo, setLoc, locVal, Int.reduceToNat, boxCells, und]; done) | (simp (maxSteps := 5000000) only [SA, SB, SD, R, guardAt, binP, intP, indexAddrP, elemsOf, readCells, lenP, lenAt, resultsP, resultP, oneOr, reduceCtorEq, reduceIte, Nat.reduceEqDiff, Nat.reduceAdd, Nat.zero_add, Nat.reduceMul, Nat.reduceLT, Nat.reduceLeDiff, Int.reduceLT, Int.reduceNeg, Int.reduceLE, appendP, appendAt, letGo, setLoc, locVal, Int.reduceToNat, boxCells, und]; rfl)
  obtain ⟨e', ex, ⟨hv, he, g1⟩ | ⟨hv, he, g2⟩⟩ := hP
  · subst he
    subst hv
    simp (maxSteps := 5000000) only [SA, SB, SD, R, guardAt, binP, intP, indexAddrP, elemsOf, readCells, lenP, lenAt, resultsP, resultP, oneOr, reduceCtorEq, reduceIte, Nat.reduceEqDiff, Nat.reduceAdd, Nat.zero_add, Nat.reduceMul, Nat.reduceLT, Nat.reduceLeDiff, Int.reduceLT, Int.reduceNeg, Int.reduceLE, appendP, appendAt, letGo, setLoc, locVal, Int.reduceToNat, boxCells, und, TG, SE, SC, TGf, SPf, List.getElem?_concat_length, List.getElem?_cons_zero, List.getElem?_cons_succ, List.take_nil, unP, htu, htr, hky, hev1, htg, hsp, hrl, loadR, loadP, lay, List.take_succ_cons, List.take_zero, List.drop_nil, List.filter_nil, List.cons_append, Int.reduceBEq, Int.reduceBNe, Int.reduceGT, Int.reduceGE, Bool.not_true, Bool.not_false, g1, ldo, List.nil_append]
    generalize hE2 : ev (Code.loop _) _ = z2
    have hP2 : PPl 2 (.cells 32 [.str nm, .int .i64 pr, .sl xs, .int .i64 zk, .int .i64 zn, .int .i64 zm, .str znm, .int .i64 zv.1, .int .i64 zv.2.1, .str zv.2.2, .int .i64 zkey.1, .str zkey.2.1, .str zkey.2.2, .sl zs, .sl ys] :: ex) v2 z2 := by
      rw [← hE2]
      refine hdo _ _ ?_ ?_ ?_ ?_
      all_goals first | (simp (maxSteps := 5000000) only [SA, SB, SD, R, guardAt, binP, intP, indexAddrP, elemsOf, readCells, lenP, lenAt, resultsP, resultP, oneOr, reduceCtorEq, reduceIte, Nat.reduceEqDiff, Nat.reduceAdd, Nat.zero_add, Nat.reduceMul, Nat.reduceLT, Nat.reduceLeDiff, Int.reduceLT, Int.reduceNeg, Int.reduceLE, appendP, appendAt, letGo, setLoc, locVal, Int.reduceToNat, boxCells, und, g1]; done) | (simp (maxSteps := 5000000) only [SA, SB, SD, R, guardAt, binP, intP, indexAddrP, elemsOf, readCells, lenP, lenAt, resultsP, resultP, oneOr, reduceCtorEq, reduceIte, Nat.reduceEqDiff, Nat.reduceAdd, Nat.zero_add, Nat.reduceMul, Nat.reduceLT, Nat.reduceLeDiff, Int.reduceLT, Int.reduceNeg, Int.reduceLE, appendP, appendAt, letGo, setLoc, locVal, Int.reduceToNat, boxCells, und, g1]; rfl)
    obtain ⟨e2, ex2, ⟨hv2, he2, g3⟩ | ⟨hv2, he2, g4⟩⟩ := hP2
    · subst he2
      subst hv2
      simp (maxSteps := 5000000) only [SA, SB, SD, R, guardAt, binP, intP, indexAddrP, elemsOf, readCells, lenP, lenAt, resultsP, resultP, oneOr, reduceCtorEq, reduceIte, Nat.reduceEqDiff, Nat.reduceAdd, Nat.zero_add, Nat.reduceMul, Nat.reduceLT, Nat.reduceLeDiff, Int.reduceLT, Int.reduceNeg, Int.reduceLE, appendP, appendAt, letGo, setLoc, locVal, Int.reduceToNat, boxCells, und, TG, SE]
      exact ⟨_, rfl⟩
    · subst he2
      subst hv2
      simp (maxSteps := 5000000) only [SA, SB, SD, R, guardAt, binP, intP, indexAddrP, elemsOf, readCells, lenP, lenAt, resultsP, resultP, oneOr, reduceCtorEq, reduceIte, Nat.reduceEqDiff, Nat.reduceAdd, Nat.zero_add, Nat.reduceMul, Nat.reduceLT, Nat.reduceLeDiff, Int.reduceLT, Int.reduceNeg, Int.reduceLE, appendP, appendAt, letGo, setLoc, locVal, Int.reduceToNat, boxCells, und, TG, SE, g4]
      exact ⟨_, rfl⟩
  · subst he
    subst hv
    simp (maxSteps := 5000000) only [SA, SB, SD, R, guardAt, binP, intP, indexAddrP, elemsOf, readCells, lenP, lenAt, resultsP, resultP, oneOr, reduceCtorEq, reduceIte, Nat.reduceEqDiff, Nat.reduceAdd, Nat.zero_add, Nat.reduceMul, Nat.reduceLT, Nat.reduceLeDiff, Int.reduceLT, Int.reduceNeg, Int.reduceLE, appendP, appendAt, letGo, setLoc, locVal, Int.reduceToNat, boxCells, und, TG, SE, g2]
    exact ⟨_, rfl⟩
end Go.HH
