/-
  Joined: E9, E10, TQ, P1, P2.
-/
import Derived.Test.YthjcaihemgllaaaGreatDoorPJ2
namespace Go.HH
open Go Go.Proofs
set_option maxRecDepth 100000
set_option linter.unusedSimpArgs false
set_option linter.unusedVariables false
set_option maxHeartbeats 4000000
theorem ok_expr_Same : fnOK CC Tryz.f85 (Tryz.f85.body.getD .skip) = true := by kernel_rfl
theorem fat_expr_Same : CC.P.funcs[85]? = some Tryz.f85 := by kernel_rfl
theorem ok_R28_Same : fnOK CC Tryz.f23 (Tryz.f23.body.getD .skip) = true := by kernel_rfl
theorem fat_R28_Same : CC.P.funcs[23]? = some Tryz.f23 := by kernel_rfl
theorem ok_print_none : fnOK CC Tryz.f62 (Tryz.f62.body.getD .skip) = true := by kernel_rfl
theorem fat_print_none : CC.P.funcs[62]? = some Tryz.f62 := by kernel_rfl
theorem ok_R30_None : fnOK CC Tryz.f67 (Tryz.f67.body.getD .skip) = true := by kernel_rfl
theorem fat_R30_None : CC.P.funcs[67]? = some Tryz.f67 := by kernel_rfl
/-- an expression without kids, built here -/
def leafV (k n m : Int) (nm : List UInt8) (v : Vl) (key : Ky) : PV := .agg [.int .i64 k, .int .i64 n, .int .i64 m, .str nm, .int .i64 v.1, .int .i64 v.2.1, .str v.2.2, .int .i64 key.1, .str key.2.1, .str key.2.2, .sl []]
/-- is an expression that one? -/
def smB (t : Tr) (k n m : Int) (nm : List UInt8) (v : Vl) (key : Ky) : Bool := match t with
  | .mk k' n' m' nm' v' key' kids => (k' == k) && (n' == n) && (m' == m) && (nm' == nm) && eqVl v' v && eqKy key' key && (kids.length == 0)
theorem loop0_expr_Same (L : Code) (hL : L = fpart Tryz.f85 [1,1,0,1,0]) (e : List PV) (bx : List PBox) (h1 : getT e 58 = .int .i64 0) (h2 : getT e 59 = .int .i64 0) : ∃ e' bx', evL CC L ⟨e, bx⟩ = some (.exit 0, ⟨e', bx'⟩) := by
  rw [evL_at (fpart Tryz.f85 [1,1,0,1,0,0]) hL]
  have hlen : True := trivial
  obtain ⟨tu, htu⟩ := VLs
  obtain ⟨tr, htr⟩ := TRs
  obtain ⟨tk, hky⟩ := KYs
  have hi : ¬ ((0 : Int) < 0) := by decide
  obtain ⟨ev, eo, so, co, ⟨hev, hco⟩, R⟩ := RULES CC; rw [← hev]
  simp only [fpart, part', Tryz.f85, Option.getD]
  simp (maxSteps := 5000000) only [SA, SB, SD, R, guardAt, binP, intP, indexAddrP, elemsOf, readCells, lenP, lenAt, resultsP, resultP, oneOr, reduceCtorEq, reduceIte, Nat.reduceEqDiff, Nat.reduceAdd, Nat.zero_add, Nat.reduceMul, Nat.reduceLT, Nat.reduceLeDiff, Int.reduceLT, Int.reduceNeg, Int.reduceLE, appendP, appendAt, letGo, setLoc, locVal, Int.reduceToNat, boxCells, und, TG, SE, SC, List.getElem?_cons_zero, List.getElem?_cons_succ, unP, htu, htr, hky, hlen, eqgV, eqgK, loadR, loadP, lay, List.take_succ_cons, List.take_zero, List.drop_nil, List.filter_nil, List.cons_append, List.length_nil, Int.reduceBEq, Int.reduceBNe, Int.reduceGT, Int.reduceGE, Int.reduceLT, Bool.not_true, Bool.not_false, Bool.not_not, h1, h2, hi]
  exact ⟨_, _, rfl⟩
theorem same_expr_Same (k n m : Int) (nm : List UInt8) (vk vn : Int) (vs : List UInt8) (dv : Int) (cl at_ : List UInt8) (xs : List PV) (k' n' m' : Int) (nm' : List UInt8) (vk' vn' : Int) (vs' : List UInt8) (dv' : Int) (cl' at' : List UInt8) (b1 b2 b3 b4 b5 b6 b7 : Bool)
    (h1 : (k != k') = b1) (h2 : (n != n') = b2) (h3 : (m != m') = b3) (h4 : strP .neq nm nm' = some (.bool b4)) (h5 : eqP CC 100 24 (.agg [.int .i64 vk, .int .i64 vn, .str vs]) (.agg [.int .i64 vk', .int .i64 vn', .str vs']) = some (!b5)) (h6 : eqP CC 100 26 (.agg [.int .i64 dv, .str cl, .str at_]) (.agg [.int .i64 dv', .str cl', .str at']) = some (!b6)) (h7 : ((xs.length : Int) != ((0 : Nat) : Int)) = b7) :
    ∃ bx, callL CC 85 [.agg [.int .i64 k, .int .i64 n, .int .i64 m, .str nm, .int .i64 vk, .int .i64 vn, .str vs, .int .i64 dv, .str cl, .str at_, .sl xs], .agg [.int .i64 k', .int .i64 n', .int .i64 m', .str nm', .int .i64 vk', .int .i64 vn', .str vs', .int .i64 dv', .str cl', .str at', .sl []]] [] = some (.ret (.bool (!(b1 || b2 || b3 || b4 || b5 || b6 || b7))), bx) := by
  have hlen : True := trivial
  obtain ⟨tu, htu⟩ := VLs
  obtain ⟨tr, htr⟩ := TRs
  obtain ⟨tk, hky⟩ := KYs
  have hloop := loop0_expr_Same _ rfl
  rw [callL_enter (fn := Tryz.f85) (c := Tryz.f85.body.getD .skip) rfl rfl fat_expr_Same rfl ok_expr_Same (Nat.le_of_ble_eq_true rfl)]
  cases b1 with
  | true =>
    obtain ⟨ev, eo, so, co, ⟨hev, hco⟩, R⟩ := RULES CC; rw [← hev]
    simp only [fpart, part', Tryz.f85, Option.getD]
    simp (maxSteps := 5000000) only [SA, SB, SD, R, guardAt, binP, intP, indexAddrP, elemsOf, readCells, lenP, lenAt, resultsP, resultP, oneOr, reduceCtorEq, reduceIte, Nat.reduceEqDiff, Nat.reduceAdd, Nat.zero_add, Nat.reduceMul, Nat.reduceLT, Nat.reduceLeDiff, Int.reduceLT, Int.reduceNeg, Int.reduceLE, appendP, appendAt, letGo, setLoc, locVal, Int.reduceToNat, boxCells, und, TG, SE, SC, List.getElem?_cons_zero, List.getElem?_cons_succ, unP, htu, htr, hky, hlen, eqgV, eqgK, loadR, loadP, lay, List.take_succ_cons, List.take_zero, List.drop_nil, List.filter_nil, List.cons_append, List.length_nil, Int.reduceBEq, Int.reduceBNe, Int.reduceGT, Int.reduceGE, Int.reduceLT, Bool.not_true, Bool.not_false, Bool.not_not, h1]
    exact ⟨_, rfl⟩
  | false =>
    cases b2 with
    | true =>
      obtain ⟨ev, eo, so, co, ⟨hev, hco⟩, R⟩ := RULES CC; rw [← hev]
      simp only [fpart, part', Tryz.f85, Option.getD]
      simp (maxSteps := 5000000) only [SA, SB, SD, R, guardAt, binP, intP, indexAddrP, elemsOf, readCells, lenP, lenAt, resultsP, resultP, oneOr, reduceCtorEq, reduceIte, Nat.reduceEqDiff, Nat.reduceAdd, Nat.zero_add, Nat.reduceMul, Nat.reduceLT, Nat.reduceLeDiff, Int.reduceLT, Int.reduceNeg, Int.reduceLE, appendP, appendAt, letGo, setLoc, locVal, Int.reduceToNat, boxCells, und, TG, SE, SC, List.getElem?_cons_zero, List.getElem?_cons_succ, unP, htu, htr, hky, hlen, eqgV, eqgK, loadR, loadP, lay, List.take_succ_cons, List.take_zero, List.drop_nil, List.filter_nil, List.cons_append, List.length_nil, Int.reduceBEq, Int.reduceBNe, Int.reduceGT, Int.reduceGE, Int.reduceLT, Bool.not_true, Bool.not_false, Bool.not_not, h1, h2]
      exact ⟨_, rfl⟩
    | false =>
      cases b3 with
      | true =>
        obtain ⟨ev, eo, so, co, ⟨hev, hco⟩, R⟩ := RULES CC; rw [← hev]
        simp only [fpart, part', Tryz.f85, Option.getD]
        simp (maxSteps := 5000000) only [SA, SB, SD, R, guardAt, binP, intP, indexAddrP, elemsOf, readCells, lenP, lenAt, resultsP, resultP, oneOr, reduceCtorEq, reduceIte, Nat.reduceEqDiff, Nat.reduceAdd, Nat.zero_add, Nat.reduceMul, Nat.reduceLT, Nat.reduceLeDiff, Int.reduceLT, Int.reduceNeg, Int.reduceLE, appendP, appendAt, letGo, setLoc, locVal, Int.reduceToNat, boxCells, und, TG, SE, SC, List.getElem?_cons_zero, List.getElem?_cons_succ, unP, htu, htr, hky, hlen, eqgV, eqgK, loadR, loadP, lay, List.take_succ_cons, List.take_zero, List.drop_nil, List.filter_nil, List.cons_append, List.length_nil, Int.reduceBEq, Int.reduceBNe, Int.reduceGT, Int.reduceGE, Int.reduceLT, Bool.not_true, Bool.not_false, Bool.not_not, h1, h2, h3]
        exact ⟨_, rfl⟩
      | false =>
        cases b4 with
        | true =>
          obtain ⟨ev, eo, so, co, ⟨hev, hco⟩, R⟩ := RULES CC; rw [← hev]
          simp only [fpart, part', Tryz.f85, Option.getD]
          simp (maxSteps := 5000000) only [SA, SB, SD, R, guardAt, binP, intP, indexAddrP, elemsOf, readCells, lenP, lenAt, resultsP, resultP, oneOr, reduceCtorEq, reduceIte, Nat.reduceEqDiff, Nat.reduceAdd, Nat.zero_add, Nat.reduceMul, Nat.reduceLT, Nat.reduceLeDiff, Int.reduceLT, Int.reduceNeg, Int.reduceLE, appendP, appendAt, letGo, setLoc, locVal, Int.reduceToNat, boxCells, und, TG, SE, SC, List.getElem?_cons_zero, List.getElem?_cons_succ, unP, htu, htr, hky, hlen, eqgV, eqgK, loadR, loadP, lay, List.take_succ_cons, List.take_zero, List.drop_nil, List.filter_nil, List.cons_append, List.length_nil, Int.reduceBEq, Int.reduceBNe, Int.reduceGT, Int.reduceGE, Int.reduceLT, Bool.not_true, Bool.not_false, Bool.not_not, h1, h2, h3, h4]
          exact ⟨_, rfl⟩
        | false =>
          cases b5 with
          | true =>
            obtain ⟨ev, eo, so, co, ⟨hev, hco⟩, R⟩ := RULES CC; rw [← hev]
            simp only [fpart, part', Tryz.f85, Option.getD]
            simp (maxSteps := 5000000) only [SA, SB, SD, R, guardAt, binP, intP, indexAddrP, elemsOf, readCells, lenP, lenAt, resultsP, resultP, oneOr, reduceCtorEq, reduceIte, Nat.reduceEqDiff, Nat.reduceAdd, Nat.zero_add, Nat.reduceMul, Nat.reduceLT, Nat.reduceLeDiff, Int.reduceLT, Int.reduceNeg, Int.reduceLE, appendP, appendAt, letGo, setLoc, locVal, Int.reduceToNat, boxCells, und, TG, SE, SC, List.getElem?_cons_zero, List.getElem?_cons_succ, unP, htu, htr, hky, hlen, eqgV, eqgK, loadR, loadP, lay, List.take_succ_cons, List.take_zero, List.drop_nil, List.filter_nil, List.cons_append, List.length_nil, Int.reduceBEq, Int.reduceBNe, Int.reduceGT, Int.reduceGE, Int.reduceLT, Bool.not_true, Bool.not_false, Bool.not_not, h1, h2, h3, h4, h5]
            exact ⟨_, rfl⟩
          | false =>
            cases b6 with
            | true =>
              obtain ⟨ev, eo, so, co, ⟨hev, hco⟩, R⟩ := RULES CC; rw [← hev]
              simp only [fpart, part', Tryz.f85, Option.getD]
              simp (maxSteps := 5000000) only [SA, SB, SD, R, guardAt, binP, intP, indexAddrP, elemsOf, readCells, lenP, lenAt, resultsP, resultP, oneOr, reduceCtorEq, reduceIte, Nat.reduceEqDiff, Nat.reduceAdd, Nat.zero_add, Nat.reduceMul, Nat.reduceLT, Nat.reduceLeDiff, Int.reduceLT, Int.reduceNeg, Int.reduceLE, appendP, appendAt, letGo, setLoc, locVal, Int.reduceToNat, boxCells, und, TG, SE, SC, List.getElem?_cons_zero, List.getElem?_cons_succ, unP, htu, htr, hky, hlen, eqgV, eqgK, loadR, loadP, lay, List.take_succ_cons, List.take_zero, List.drop_nil, List.filter_nil, List.cons_append, List.length_nil, Int.reduceBEq, Int.reduceBNe, Int.reduceGT, Int.reduceGE, Int.reduceLT, Bool.not_true, Bool.not_false, Bool.not_not, h1, h2, h3, h4, h5, h6]
              exact ⟨_, rfl⟩
            | false =>
              cases b7 with
              | true =>
                obtain ⟨ev, eo, so, co, ⟨hev, hco⟩, R⟩ := RULES CC; rw [← hev]
                simp only [fpart, part', Tryz.f85, Option.getD]
                simp (maxSteps := 5000000) only [SA, SB, SD, R, guardAt, binP, intP, indexAddrP, elemsOf, readCells, lenP, lenAt, resultsP, resultP, oneOr, reduceCtorEq, reduceIte, Nat.reduceEqDiff, Nat.reduceAdd, Nat.zero_add, Nat.reduceMul, Nat.reduceLT, Nat.reduceLeDiff, Int.reduceLT, Int.reduceNeg, Int.reduceLE, appendP, appendAt, letGo, setLoc, locVal, Int.reduceToNat, boxCells, und, TG, SE, SC, List.getElem?_cons_zero, List.getElem?_cons_succ, unP, htu, htr, hky, hlen, eqgV, eqgK, loadR, loadP, lay, List.take_succ_cons, List.take_zero, List.drop_nil, List.filter_nil, List.cons_append, List.length_nil, Int.reduceBEq, Int.reduceBNe, Int.reduceGT, Int.reduceGE, Int.reduceLT, Bool.not_true, Bool.not_false, Bool.not_not, h1, h2, h3, h4, h5, h6, h7]
                exact ⟨_, rfl⟩
              | false =>
                have hx0 : (xs.length : Int) = 0 := by simpa using h7
                obtain ⟨ev, eo, so, co, ⟨hev, hco⟩, R⟩ := RULES CC; rw [← hev]
                rw [← hev] at hloop
                simp only [fpart, part', Tryz.f85, Option.getD] at hloop ⊢
                simp (maxSteps := 5000000) only [SA, SB, SD, R, guardAt, binP, intP, indexAddrP, elemsOf, readCells, lenP, lenAt, resultsP, resultP, oneOr, reduceCtorEq, reduceIte, Nat.reduceEqDiff, Nat.reduceAdd, Nat.zero_add, Nat.reduceMul, Nat.reduceLT, Nat.reduceLeDiff, Int.reduceLT, Int.reduceNeg, Int.reduceLE, appendP, appendAt, letGo, setLoc, locVal, Int.reduceToNat, boxCells, und, TG, SE, SC, List.getElem?_cons_zero, List.getElem?_cons_succ, unP, htu, htr, hky, hlen, eqgV, eqgK, loadR, loadP, lay, List.take_succ_cons, List.take_zero, List.drop_nil, List.filter_nil, List.cons_append, List.length_nil, Int.reduceBEq, Int.reduceBNe, Int.reduceGT, Int.reduceGE, Int.reduceLT, Bool.not_true, Bool.not_false, Bool.not_not, h1, h2, h3, h4, h5, h6, h7]
                generalize hE : ev (Code.loop _) _ = z
                have hz : ∃ e' bx', z = some (.exit 0, ⟨e', bx'⟩) := by
                  rw [← hE]
                  refine hloop _ _ ?_ ?_
                  · simp (maxSteps := 5000000) only [SA, SB, SD, R, guardAt, binP, intP, indexAddrP, elemsOf, readCells, lenP, lenAt, resultsP, resultP, oneOr, reduceCtorEq, reduceIte, Nat.reduceEqDiff, Nat.reduceAdd, Nat.zero_add, Nat.reduceMul, Nat.reduceLT, Nat.reduceLeDiff, Int.reduceLT, Int.reduceNeg, Int.reduceLE, appendP, appendAt, letGo, setLoc, locVal, Int.reduceToNat, boxCells, und, hx0]
                  · simp (maxSteps := 5000000) only [SA, SB, SD, R, guardAt, binP, intP, indexAddrP, elemsOf, readCells, lenP, lenAt, resultsP, resultP, oneOr, reduceCtorEq, reduceIte, Nat.reduceEqDiff, Nat.reduceAdd, Nat.zero_add, Nat.reduceMul, Nat.reduceLT, Nat.reduceLeDiff, Int.reduceLT, Int.reduceNeg, Int.reduceLE, appendP, appendAt, letGo, setLoc, locVal, Int.reduceToNat, boxCells, und]
                obtain ⟨e', bx', he⟩ := hz
                subst he
                simp (maxSteps := 5000000) only [SA, SB, SD, R, guardAt, binP, intP, indexAddrP, elemsOf, readCells, lenP, lenAt, resultsP, resultP, oneOr, reduceCtorEq, reduceIte, Nat.reduceEqDiff, Nat.reduceAdd, Nat.zero_add, Nat.reduceMul, Nat.reduceLT, Nat.reduceLeDiff, Int.reduceLT, Int.reduceNeg, Int.reduceLE, appendP, appendAt, letGo, setLoc, locVal, Int.reduceToNat, boxCells, und, TG, SE]
                exact ⟨_, rfl⟩
theorem loop0_R28_Same (L : Code) (hL : L = fpart Tryz.f23 [1,1,0,1,0]) (c0 c1 c2 c3 c4 c5 c6 c7 c8 c9 : PV) (xs : List PV) (b1 : PBox) (hx : (xs.length : Int) = 0) (e : List PV) (h1 : getT e 2 = .bp 0 0) (h2 : getT e 5 = .int .i64 0) : ∃ e' bx', evL CC L ⟨e, [.cells 29 [c0, c1, c2, c3, c4, c5, c6, c7, c8, c9, .sl xs], b1]⟩ = some (.exit 0, ⟨e', bx'⟩) := by
  rw [evL_at (fpart Tryz.f23 [1,1,0,1,0,0]) hL]
  have hlen : True := trivial
  obtain ⟨tu, htu⟩ := VLs
  obtain ⟨tr, htr⟩ := TRs
  obtain ⟨tk, hky⟩ := KYs
  have hi : ¬ ((0 : Int) < 0) := by decide
  obtain ⟨ev, eo, so, co, ⟨hev, hco⟩, R⟩ := RULES CC; rw [← hev]
  simp only [fpart, part', Tryz.f23, Option.getD]
  simp (maxSteps := 5000000) only [SA, SB, SD, R, guardAt, binP, intP, indexAddrP, elemsOf, readCells, lenP, lenAt, resultsP, resultP, oneOr, reduceCtorEq, reduceIte, Nat.reduceEqDiff, Nat.reduceAdd, Nat.zero_add, Nat.reduceMul, Nat.reduceLT, Nat.reduceLeDiff, Int.reduceLT, Int.reduceNeg, Int.reduceLE, appendP, appendAt, letGo, setLoc, locVal, Int.reduceToNat, boxCells, und, TG, SE, SC, List.getElem?_cons_zero, List.getElem?_cons_succ, unP, htu, htr, hky, hlen, eqgV, eqgK, loadR, loadP, lay, List.take_succ_cons, List.take_zero, List.drop_nil, List.filter_nil, List.cons_append, List.length_nil, Int.reduceBEq, Int.reduceBNe, Int.reduceGT, Int.reduceGE, Int.reduceLT, Bool.not_true, Bool.not_false, Bool.not_not, h1, h2, hx, hi]
  exact ⟨_, _, rfl⟩
theorem same_R28_Same (k n m : Int) (nm : List UInt8) (vk vn : Int) (vs : List UInt8) (dv : Int) (cl at_ : List UInt8) (xs : List PV) (k' n' m' : Int) (nm' : List UInt8) (vk' vn' : Int) (vs' : List UInt8) (dv' : Int) (cl' at' : List UInt8) (b1 b2 b3 b4 b5 b6 b7 : Bool)
    (h1 : (k != k') = b1) (h2 : (n != n') = b2) (h3 : (m != m') = b3) (h4 : strP .neq nm nm' = some (.bool b4)) (h5 : eqP CC 100 24 (.agg [.int .i64 vk, .int .i64 vn, .str vs]) (.agg [.int .i64 vk', .int .i64 vn', .str vs']) = some (!b5)) (h6 : eqP CC 100 26 (.agg [.int .i64 dv, .str cl, .str at_]) (.agg [.int .i64 dv', .str cl', .str at']) = some (!b6)) (h7 : ((xs.length : Int) != ((0 : Nat) : Int)) = b7) :
    ∃ bx, callL CC 23 [.agg [.int .i64 k, .int .i64 n, .int .i64 m, .str nm, .int .i64 vk, .int .i64 vn, .str vs, .int .i64 dv, .str cl, .str at_, .sl xs], .agg [.int .i64 k', .int .i64 n', .int .i64 m', .str nm', .int .i64 vk', .int .i64 vn', .str vs', .int .i64 dv', .str cl', .str at', .sl []]] [] = some (.ret (.bool (!(b1 || b2 || b3 || b4 || b5 || b6 || b7))), bx) := by
  have hlen : True := trivial
  obtain ⟨tu, htu⟩ := VLs
  obtain ⟨tr, htr⟩ := TRs
  obtain ⟨tk, hky⟩ := KYs
  have hloop := fun c0 c1 c2 c3 c4 c5 c6 c7 c8 c9 xs b1 => loop0_R28_Same _ rfl c0 c1 c2 c3 c4 c5 c6 c7 c8 c9 xs b1
  rw [callL_enter (fn := Tryz.f23) (c := Tryz.f23.body.getD .skip) rfl rfl fat_R28_Same rfl ok_R28_Same (Nat.le_of_ble_eq_true rfl)]
  cases b1 with
  | true =>
    obtain ⟨ev, eo, so, co, ⟨hev, hco⟩, R⟩ := RULES CC; rw [← hev]
    simp only [fpart, part', Tryz.f23, Option.getD]
    simp (maxSteps := 5000000) only [SA, SB, SD, R, guardAt, binP, intP, indexAddrP, elemsOf, readCells, lenP, lenAt, resultsP, resultP, oneOr, reduceCtorEq, reduceIte, Nat.reduceEqDiff, Nat.reduceAdd, Nat.zero_add, Nat.reduceMul, Nat.reduceLT, Nat.reduceLeDiff, Int.reduceLT, Int.reduceNeg, Int.reduceLE, appendP, appendAt, letGo, setLoc, locVal, Int.reduceToNat, boxCells, und, TG, SE, SC, List.getElem?_cons_zero, List.getElem?_cons_succ, unP, htu, htr, hky, hlen, eqgV, eqgK, loadR, loadP, lay, List.take_succ_cons, List.take_zero, List.drop_nil, List.filter_nil, List.cons_append, List.length_nil, Int.reduceBEq, Int.reduceBNe, Int.reduceGT, Int.reduceGE, Int.reduceLT, Bool.not_true, Bool.not_false, Bool.not_not, h1]
    exact ⟨_, rfl⟩
  | false =>
    cases b2 with
    | true =>
      obtain ⟨ev, eo, so, co, ⟨hev, hco⟩, R⟩ := RULES CC; rw [← hev]
      simp only [fpart, part', Tryz.f23, Option.getD]
      simp (maxSteps := 5000000) only [SA, SB, SD, R, guardAt, binP, intP, indexAddrP, elemsOf, readCells, lenP, lenAt, resultsP, resultP, oneOr, reduceCtorEq, reduceIte, Nat.reduceEqDiff, Nat.reduceAdd, Nat.zero_add, Nat.reduceMul, Nat.reduceLT, Nat.reduceLeDiff, Int.reduceLT, Int.reduceNeg, Int.reduceLE, appendP, appendAt, letGo, setLoc, locVal, Int.reduceToNat, boxCells, und, TG, SE, SC, List.getElem?_cons_zero, List.getElem?_cons_succ, unP, htu, htr, hky, hlen, eqgV, eqgK, loadR, loadP, lay, List.take_succ_cons, List.take_zero, List.drop_nil, List.filter_nil, List.cons_append, List.length_nil, Int.reduceBEq, Int.reduceBNe, Int.reduceGT, Int.reduceGE, Int.reduceLT, Bool.not_true, Bool.not_false, Bool.not_not, h1, h2]
      exact ⟨_, rfl⟩
    | false =>
      cases b3 with
      | true =>
        obtain ⟨ev, eo, so, co, ⟨hev, hco⟩, R⟩ := RULES CC; rw [← hev]
        simp only [fpart, part', Tryz.f23, Option.getD]
        simp (maxSteps := 5000000) only [SA, SB, SD, R, guardAt, binP, intP, indexAddrP, elemsOf, readCells, lenP, lenAt, resultsP, resultP, oneOr, reduceCtorEq, reduceIte, Nat.reduceEqDiff, Nat.reduceAdd, Nat.zero_add, Nat.reduceMul, Nat.reduceLT, Nat.reduceLeDiff, Int.reduceLT, Int.reduceNeg, Int.reduceLE, appendP, appendAt, letGo, setLoc, locVal, Int.reduceToNat, boxCells, und, TG, SE, SC, List.getElem?_cons_zero, List.getElem?_cons_succ, unP, htu, htr, hky, hlen, eqgV, eqgK, loadR, loadP, lay, List.take_succ_cons, List.take_zero, List.drop_nil, List.filter_nil, List.cons_append, List.length_nil, Int.reduceBEq, Int.reduceBNe, Int.reduceGT, Int.reduceGE, Int.reduceLT, Bool.not_true, Bool.not_false, Bool.not_not, h1, h2, h3]
        exact ⟨_, rfl⟩
      | false =>
        cases b4 with
        | true =>
          obtain ⟨ev, eo, so, co, ⟨hev, hco⟩, R⟩ := RULES CC; rw [← hev]
          simp only [fpart, part', Tryz.f23, Option.getD]
          simp (maxSteps := 5000000) only [SA, SB, SD, R, guardAt, binP, intP, indexAddrP, elemsOf, readCells, lenP, lenAt, resultsP, resultP, oneOr, reduceCtorEq, reduceIte, Nat.reduceEqDiff, Nat.reduceAdd, Nat.zero_add, Nat.reduceMul, Nat.reduceLT, Nat.reduceLeDiff, Int.reduceLT, Int.reduceNeg, Int.reduceLE, appendP, appendAt, letGo, setLoc, locVal, Int.reduceToNat, boxCells, und, TG, SE, SC, List.getElem?_cons_zero, List.getElem?_cons_succ, unP, htu, htr, hky, hlen, eqgV, eqgK, loadR, loadP, lay, List.take_succ_cons, List.take_zero, List.drop_nil, List.filter_nil, List.cons_append, List.length_nil, Int.reduceBEq, Int.reduceBNe, Int.reduceGT, Int.reduceGE, Int.reduceLT, Bool.not_true, Bool.not_false, Bool.not_not, h1, h2, h3, h4]
          exact ⟨_, rfl⟩
        | false =>
          cases b5 with
          | true =>
            obtain ⟨ev, eo, so, co, ⟨hev, hco⟩, R⟩ := RULES CC; rw [← hev]
            simp only [fpart, part', Tryz.f23, Option.getD]
            simp (maxSteps := 5000000) only [SA, SB, SD, R, guardAt, binP, intP, indexAddrP, elemsOf, readCells, lenP, lenAt, resultsP, resultP, oneOr, reduceCtorEq, reduceIte, Nat.reduceEqDiff, Nat.reduceAdd, Nat.zero_add, Nat.reduceMul, Nat.reduceLT, Nat.reduceLeDiff, Int.reduceLT, Int.reduceNeg, Int.reduceLE, appendP, appendAt, letGo, setLoc, locVal, Int.reduceToNat, boxCells, und, TG, SE, SC, List.getElem?_cons_zero, List.getElem?_cons_succ, unP, htu, htr, hky, hlen, eqgV, eqgK, loadR, loadP, lay, List.take_succ_cons, List.take_zero, List.drop_nil, List.filter_nil, List.cons_append, List.length_nil, Int.reduceBEq, Int.reduceBNe, Int.reduceGT, Int.reduceGE, Int.reduceLT, Bool.not_true, Bool.not_false, Bool.not_not, h1, h2, h3, h4, h5]
            exact ⟨_, rfl⟩
          | false =>
            cases b6 with
            | true =>
              obtain ⟨ev, eo, so, co, ⟨hev, hco⟩, R⟩ := RULES CC; rw [← hev]
              simp only [fpart, part', Tryz.f23, Option.getD]
              simp (maxSteps := 5000000) only [SA, SB, SD, R, guardAt, binP, intP, indexAddrP, elemsOf, readCells, lenP, lenAt, resultsP, resultP, oneOr, reduceCtorEq, reduceIte, Nat.reduceEqDiff, Nat.reduceAdd, Nat.zero_add, Nat.reduceMul, Nat.reduceLT, Nat.reduceLeDiff, Int.reduceLT, Int.reduceNeg, Int.reduceLE, appendP, appendAt, letGo, setLoc, locVal, Int.reduceToNat, boxCells, und, TG, SE, SC, List.getElem?_cons_zero, List.getElem?_cons_succ, unP, htu, htr, hky, hlen, eqgV, eqgK, loadR, loadP, lay, List.take_succ_cons, List.take_zero, List.drop_nil, List.filter_nil, List.cons_append, List.length_nil, Int.reduceBEq, Int.reduceBNe, Int.reduceGT, Int.reduceGE, Int.reduceLT, Bool.not_true, Bool.not_false, Bool.not_not, h1, h2, h3, h4, h5, h6]
              exact ⟨_, rfl⟩
            | false =>
              cases b7 with
              | true =>
                obtain ⟨ev, eo, so, co, ⟨hev, hco⟩, R⟩ := RULES CC; rw [← hev]
                simp only [fpart, part', Tryz.f23, Option.getD]
                simp (maxSteps := 5000000) only [SA, SB, SD, R, guardAt, binP, intP, indexAddrP, elemsOf, readCells, lenP, lenAt, resultsP, resultP, oneOr, reduceCtorEq, reduceIte, Nat.reduceEqDiff, Nat.reduceAdd, Nat.zero_add, Nat.reduceMul, Nat.reduceLT, Nat.reduceLeDiff, Int.reduceLT, Int.reduceNeg, Int.reduceLE, appendP, appendAt, letGo, setLoc, locVal, Int.reduceToNat, boxCells, und, TG, SE, SC, List.getElem?_cons_zero, List.getElem?_cons_succ, unP, htu, htr, hky, hlen, eqgV, eqgK, loadR, loadP, lay, List.take_succ_cons, List.take_zero, List.drop_nil, List.filter_nil, List.cons_append, List.length_nil, Int.reduceBEq, Int.reduceBNe, Int.reduceGT, Int.reduceGE, Int.reduceLT, Bool.not_true, Bool.not_false, Bool.not_not, h1, h2, h3, h4, h5, h6, h7]
                exact ⟨_, rfl⟩
              | false =>
                have hx0 : (xs.length : Int) = 0 := by simpa using h7
                obtain ⟨ev, eo, so, co, ⟨hev, hco⟩, R⟩ := RULES CC; rw [← hev]
                rw [← hev] at hloop
                simp only [fpart, part', Tryz.f23, Option.getD] at hloop ⊢
                simp (maxSteps := 5000000) only [SA, SB, SD, R, guardAt, binP, intP, indexAddrP, elemsOf, readCells, lenP, lenAt, resultsP, resultP, oneOr, reduceCtorEq, reduceIte, Nat.reduceEqDiff, Nat.reduceAdd, Nat.zero_add, Nat.reduceMul, Nat.reduceLT, Nat.reduceLeDiff, Int.reduceLT, Int.reduceNeg, Int.reduceLE, appendP, appendAt, letGo, setLoc, locVal, Int.reduceToNat, boxCells, und, TG, SE, SC, List.getElem?_cons_zero, List.getElem?_cons_succ, unP, htu, htr, hky, hlen, eqgV, eqgK, loadR, loadP, lay, List.take_succ_cons, List.take_zero, List.drop_nil, List.filter_nil, List.cons_append, List.length_nil, Int.reduceBEq, Int.reduceBNe, Int.reduceGT, Int.reduceGE, Int.reduceLT, Bool.not_true, Bool.not_false, Bool.not_not, h1, h2, h3, h4, h5, h6, h7]
                generalize hE : ev (Code.loop _) _ = z
                have hz : ∃ e' bx', z = some (.exit 0, ⟨e', bx'⟩) := by
                  rw [← hE]
                  refine hloop _ _ _ _ _ _ _ _ _ _ _ _ hx0 _ ?_ ?_
                  · simp (maxSteps := 5000000) only [SA, SB, SD, R, guardAt, binP, intP, indexAddrP, elemsOf, readCells, lenP, lenAt, resultsP, resultP, oneOr, reduceCtorEq, reduceIte, Nat.reduceEqDiff, Nat.reduceAdd, Nat.zero_add, Nat.reduceMul, Nat.reduceLT, Nat.reduceLeDiff, Int.reduceLT, Int.reduceNeg, Int.reduceLE, appendP, appendAt, letGo, setLoc, locVal, Int.reduceToNat, boxCells, und]
                  · simp (maxSteps := 5000000) only [SA, SB, SD, R, guardAt, binP, intP, indexAddrP, elemsOf, readCells, lenP, lenAt, resultsP, resultP, oneOr, reduceCtorEq, reduceIte, Nat.reduceEqDiff, Nat.reduceAdd, Nat.zero_add, Nat.reduceMul, Nat.reduceLT, Nat.reduceLeDiff, Int.reduceLT, Int.reduceNeg, Int.reduceLE, appendP, appendAt, letGo, setLoc, locVal, Int.reduceToNat, boxCells, und]
                obtain ⟨e', bx', he⟩ := hz
                subst he
                simp (maxSteps := 5000000) only [SA, SB, SD, R, guardAt, binP, intP, indexAddrP, elemsOf, readCells, lenP, lenAt, resultsP, resultP, oneOr, reduceCtorEq, reduceIte, Nat.reduceEqDiff, Nat.reduceAdd, Nat.zero_add, Nat.reduceMul, Nat.reduceLT, Nat.reduceLeDiff, Int.reduceLT, Int.reduceNeg, Int.reduceLE, appendP, appendAt, letGo, setLoc, locVal, Int.reduceToNat, boxCells, und, TG, SE]
                exact ⟨_, rfl⟩
/-- is an expression the zero one? -/
def nnB (t : Tr) : Bool := smB t 0 0 0 [] (0, 0, []) (0, [], [])
theorem buildTr0 : buildP CC 29 [] = some (.agg [.int .i64 0, .int .i64 0, .int .i64 0, .str [], .int .i64 0, .int .i64 0, .str [], .int .i64 0, .str [], .str [], .nils]) := by kernel_rfl
theorem op_expr_Same (t : Tr) (k n m : Int) (nm : List UInt8) (v : Vl) (key : Ky) (bx) : callOp CC (callL CC) 85 [trV t, leafV k n m nm v key] bx = some (.ret (.bool (smB t k n m nm v key)), bx) := by
  obtain ⟨k', n', m', nm', v', key', kids⟩ := t
  obtain ⟨vk, vn, vs⟩ := v
  obtain ⟨dv, cl, at_⟩ := key
  obtain ⟨vk', vn', vs'⟩ := v'
  obtain ⟨dv', cl', at'⟩ := key'
  have h4 : strP .neq nm' nm = some (.bool (!(nm' == nm))) := rfl
  have h5 : eqP CC 100 24 (.agg [.int .i64 vk', .int .i64 vn', .str vs']) (.agg [.int .i64 vk, .int .i64 vn, .str vs]) = some (!(!(eqVl (vk', vn', vs') (vk, vn, vs)))) := by rw [eqVP, Bool.not_not]; rfl
  have h6 : eqP CC 100 26 (.agg [.int .i64 dv', .str cl', .str at']) (.agg [.int .i64 dv, .str cl, .str at_]) = some (!(!(eqKy (dv', cl', at') (dv, cl, at_)))) := by rw [eqKP, Bool.not_not]; rfl
  have hs := same_expr_Same k' n' m' nm' vk' vn' vs' dv' cl' at' (trVs kids) k n m nm vk vn vs dv cl at_ _ _ _ _ _ _ _ rfl rfl rfl h4 h5 h6 rfl
  obtain ⟨b, hs⟩ := hs
  have he : smB (.mk k' n' m' nm' (vk', vn', vs') (dv', cl', at') kids) k n m nm (vk, vn, vs) (dv, cl, at_) = !((k' != k) || (n' != n) || (m' != m) || (!(nm' == nm)) || (!(eqVl (vk', vn', vs') (vk, vn, vs))) || (!(eqKy (dv', cl', at') (dv, cl, at_))) || (((trVs kids).length : Int) != ((0 : Nat) : Int))) := by
    unfold smB
    simp only
    have hl : (kids.length == 0) = (((trVs kids).length : Int) == ((0 : Nat) : Int)) := by
      rw [trVs_length, Bool.eq_iff_iff]
      simp only [beq_iff_eq]
      omega
    rw [hl]
    simp only [bne, Bool.not_or, Bool.not_not]
  rw [he]
  have hp := trVs_pure kids
  refine callOp_of rfl ?_ (by unfold trV leafV; exact hs) rfl
  rw [pureL_cons, trV_pure]
  rfl
theorem op_print_none (t : Tr) (bx) : callOp CC (callL CC) 62 [trV t] bx = some (.ret (.bool (nnB t)), bx) := by
  have hsm := op_expr_Same t 0 0 0 [] (0, 0, []) (0, [], [])
  unfold nnB
  generalize smB t 0 0 0 [] (0, 0, []) (0, [], []) = b at *
  have hc : ∃ q, callL CC 62 [trV t] [] = some (.ret (.bool b), q) := by
    rw [callL_enter (fn := Tryz.f62) (c := Tryz.f62.body.getD .skip) rfl rfl fat_print_none rfl ok_print_none (Nat.le_of_ble_eq_true rfl)]
    obtain ⟨xk, xn, xm, xnm, xv, xkey, xkids⟩ := t
    unfold trV leafV at hsm
    unfold trV
    simp only at hsm
    generalize trVs xkids = xs at *
    have hlen : True := trivial
    obtain ⟨tu, htu⟩ := VLs
    obtain ⟨tr, htr⟩ := TRs
    obtain ⟨tk, hky⟩ := KYs
    obtain ⟨ev, eo, so, co, ⟨hev, hco⟩, R⟩ := RULES CC; rw [← hev]
    rw [← hco] at hsm
    simp only [fpart, part', Tryz.f62, Option.getD]
    simp (maxSteps := 5000000) only [SA, SB, SD, R, guardAt, binP, intP, indexAddrP, elemsOf, readCells, lenP, lenAt, resultsP, resultP, oneOr, reduceCtorEq, reduceIte, Nat.reduceEqDiff, Nat.reduceAdd, Nat.zero_add, Nat.reduceMul, Nat.reduceLT, Nat.reduceLeDiff, Int.reduceLT, Int.reduceNeg, Int.reduceLE, appendP, appendAt, letGo, setLoc, locVal, Int.reduceToNat, boxCells, und, TG, SE, SC, List.getElem?_cons_zero, List.getElem?_cons_succ, unP, htu, htr, hky, hlen, eqgV, eqgK, loadR, loadP, lay, List.take_succ_cons, List.take_zero, List.drop_nil, List.filter_nil, List.cons_append, List.length_nil, Int.reduceBEq, Int.reduceBNe, Int.reduceGT, Int.reduceGE, Int.reduceLT, Bool.not_true, Bool.not_false, Bool.not_not, hsm, buildTr0]
    exact ⟨_, rfl⟩
  obtain ⟨q, hq⟩ := hc
  exact callOp_of rfl (by simp only [pureL_cons, trV_pure, pureL_nil, Bool.and_self]) hq rfl
theorem op_R28_Same (t : Tr) (k n m : Int) (nm : List UInt8) (v : Vl) (key : Ky) (bx) : callOp CC (callL CC) 23 [trV t, leafV k n m nm v key] bx = some (.ret (.bool (smB t k n m nm v key)), bx) := by
  obtain ⟨k', n', m', nm', v', key', kids⟩ := t
  obtain ⟨vk, vn, vs⟩ := v
  obtain ⟨dv, cl, at_⟩ := key
  obtain ⟨vk', vn', vs'⟩ := v'
  obtain ⟨dv', cl', at'⟩ := key'
  have h4 : strP .neq nm' nm = some (.bool (!(nm' == nm))) := rfl
  have h5 : eqP CC 100 24 (.agg [.int .i64 vk', .int .i64 vn', .str vs']) (.agg [.int .i64 vk, .int .i64 vn, .str vs]) = some (!(!(eqVl (vk', vn', vs') (vk, vn, vs)))) := by rw [eqVP, Bool.not_not]; rfl
  have h6 : eqP CC 100 26 (.agg [.int .i64 dv', .str cl', .str at']) (.agg [.int .i64 dv, .str cl, .str at_]) = some (!(!(eqKy (dv', cl', at') (dv, cl, at_)))) := by rw [eqKP, Bool.not_not]; rfl
  have hs := same_R28_Same k' n' m' nm' vk' vn' vs' dv' cl' at' (trVs kids) k n m nm vk vn vs dv cl at_ _ _ _ _ _ _ _ rfl rfl rfl h4 h5 h6 rfl
  obtain ⟨b, hs⟩ := hs
  have he : smB (.mk k' n' m' nm' (vk', vn', vs') (dv', cl', at') kids) k n m nm (vk, vn, vs) (dv, cl, at_) = !((k' != k) || (n' != n) || (m' != m) || (!(nm' == nm)) || (!(eqVl (vk', vn', vs') (vk, vn, vs))) || (!(eqKy (dv', cl', at') (dv, cl, at_))) || (((trVs kids).length : Int) != ((0 : Nat) : Int))) := by
    unfold smB
    simp only
    have hl : (kids.length == 0) = (((trVs kids).length : Int) == ((0 : Nat) : Int)) := by
      rw [trVs_length, Bool.eq_iff_iff]
      simp only [beq_iff_eq]
      omega
    rw [hl]
    simp only [bne, Bool.not_or, Bool.not_not]
  rw [he]
  have hp := trVs_pure kids
  refine callOp_of rfl ?_ (by unfold trV leafV; exact hs) rfl
  rw [pureL_cons, trV_pure]
  rfl
theorem op_R30_None (t : Tr) (bx) : callOp CC (callL CC) 67 [trV t] bx = some (.ret (.bool (nnB t)), bx) := by
  have hsm := op_R28_Same t 0 0 0 [] (0, 0, []) (0, [], [])
  unfold nnB
  generalize smB t 0 0 0 [] (0, 0, []) (0, [], []) = b at *
  have hc : ∃ q, callL CC 67 [trV t] [] = some (.ret (.bool b), q) := by
    rw [callL_enter (fn := Tryz.f67) (c := Tryz.f67.body.getD .skip) rfl rfl fat_R30_None rfl ok_R30_None (Nat.le_of_ble_eq_true rfl)]
    obtain ⟨xk, xn, xm, xnm, xv, xkey, xkids⟩ := t
    unfold trV leafV at hsm
    unfold trV
    simp only at hsm
    generalize trVs xkids = xs at *
    have hlen : True := trivial
    obtain ⟨tu, htu⟩ := VLs
    obtain ⟨tr, htr⟩ := TRs
    obtain ⟨tk, hky⟩ := KYs
    obtain ⟨ev, eo, so, co, ⟨hev, hco⟩, R⟩ := RULES CC; rw [← hev]
    rw [← hco] at hsm
    simp only [fpart, part', Tryz.f67, Option.getD]
    simp (maxSteps := 5000000) only [SA, SB, SD, R, guardAt, binP, intP, indexAddrP, elemsOf, readCells, lenP, lenAt, resultsP, resultP, oneOr, reduceCtorEq, reduceIte, Nat.reduceEqDiff, Nat.reduceAdd, Nat.zero_add, Nat.reduceMul, Nat.reduceLT, Nat.reduceLeDiff, Int.reduceLT, Int.reduceNeg, Int.reduceLE, appendP, appendAt, letGo, setLoc, locVal, Int.reduceToNat, boxCells, und, TG, SE, SC, List.getElem?_cons_zero, List.getElem?_cons_succ, unP, htu, htr, hky, hlen, eqgV, eqgK, loadR, loadP, lay, List.take_succ_cons, List.take_zero, List.drop_nil, List.filter_nil, List.cons_append, List.length_nil, Int.reduceBEq, Int.reduceBNe, Int.reduceGT, Int.reduceGE, Int.reduceLT, Bool.not_true, Bool.not_false, Bool.not_not, hsm, buildTr0]
    exact ⟨_, rfl⟩
  obtain ⟨q, hq⟩ := hc
  exact callOp_of rfl (by simp only [pureL_cons, trV_pure, pureL_nil, Bool.and_self]) hq rfl
theorem uEV : Tryz.prog.underlying 56 = some (.struct ((match Tryz.prog.underlying 56 with | some (.struct f) => f | _ => #[]))) := by kernel_rfl
theorem fEV : ((match Tryz.prog.underlying 56 with | some (.struct f) => f | _ => #[]) : Array Field).toList.map (fun f => (f.type, f.offset)) = [(3, 0), (9, 1), (9, 2)] := by kernel_rfl
theorem cEV : Tryz.prog.cellsOf 56 = 3 := by kernel_rfl
theorem aggEV : aggT Tryz.prog 56 = true := by unfold aggT; rw [uEV]
theorem EVs : ∃ f, CC.P.underlying 56 = some (.struct f) := ⟨_, uEV⟩
theorem uTG_ : Tryz.prog.underlying 58 = some (.struct ((match Tryz.prog.underlying 58 with | some (.struct f) => f | _ => #[]))) := by kernel_rfl
theorem fTG_ : ((match Tryz.prog.underlying 58 with | some (.struct f) => f | _ => #[]) : Array Field).toList.map (fun f => (f.type, f.offset)) = [(3, 0), (26, 1), (56, 4), (9, 7), (3, 8), (3, 9)] := by kernel_rfl
theorem cTG_ : Tryz.prog.cellsOf 58 = 10 := by kernel_rfl
theorem aggTG_ : aggT Tryz.prog 58 = true := by unfold aggT; rw [uTG_]
theorem TG_s : ∃ f, CC.P.underlying 58 = some (.struct f) := ⟨_, uTG_⟩
theorem uSP : Tryz.prog.underlying 60 = some (.struct ((match Tryz.prog.underlying 60 with | some (.struct f) => f | _ => #[]))) := by kernel_rfl
theorem fSP : ((match Tryz.prog.underlying 60 with | some (.struct f) => f | _ => #[]) : Array Field).toList.map (fun f => (f.type, f.offset)) = [(3, 0), (26, 1), (9, 4), (29, 5)] := by kernel_rfl
theorem cSP : Tryz.prog.cellsOf 60 = 16 := by kernel_rfl
theorem aggSP : aggT Tryz.prog 60 = true := by unfold aggT; rw [uSP]
theorem SPs : ∃ f, CC.P.underlying 60 = some (.struct f) := ⟨_, uSP⟩
theorem uRL : Tryz.prog.underlying 32 = some (.struct ((match Tryz.prog.underlying 32 with | some (.struct f) => f | _ => #[]))) := by kernel_rfl
theorem fRL : ((match Tryz.prog.underlying 32 with | some (.struct f) => f | _ => #[]) : Array Field).toList.map (fun f => (f.type, f.offset)) = [(9, 0), (3, 1), (22, 2), (29, 3), (30, 14)] := by kernel_rfl
theorem cRL : Tryz.prog.cellsOf 32 = 15 := by kernel_rfl
theorem aggRL : aggT Tryz.prog 32 = true := by unfold aggT; rw [uRL]
theorem RLs : ∃ f, CC.P.underlying 32 = some (.struct f) := ⟨_, uRL⟩
theorem uTgs : Tryz.prog.underlying 22 = some (.slice 58) := by kernel_rfl
theorem uSps : Tryz.prog.underlying 30 = some (.slice 60) := by kernel_rfl
theorem cTgs : Tryz.prog.cellsOf 22 = 1 := by kernel_rfl
theorem cSps : Tryz.prog.cellsOf 30 = 1 := by kernel_rfl
theorem hasV_event {p : PV} (h : HasV Tryz.prog 56 p) : ∃ k : Ky, p = kyV k ∧ okKy k := by
  obtain ⟨n, cs, rfl, hlen, hf⟩ := hasV_struct uEV fEV h
  rw [cEV] at hlen
  match cs, hlen with
  | [a, b, c], _ =>
    have f0 := hf (3, 0) (by simp)
    have f1 := hf (9, 1) (by simp)
    have f2 := hf (9, 2) (by simp)
    simp only [cInt, cStr] at f0 f1 f2
    obtain ⟨k, e0, h0⟩ := hasT_i64 (P := Tryz.prog) Tryz.underlying3 f0
    obtain ⟨m, e1, h1⟩ := hasT_str (P := Tryz.prog) Tryz.underlying9 f1
    obtain ⟨s, e2, h2⟩ := hasT_str (P := Tryz.prog) Tryz.underlying9 f2
    injection e0 with e0
    injection e1 with e1
    injection e2 with e2
    subst e0 e1 e2
    exact ⟨(k, m, s), rfl, h0, h1, h2⟩
/-- a trigger -/
structure Tg where
  k : Int
  key : Ky
  ev : Ky
  nm : List UInt8
  n : Int
  m : Int
def tgV (t : Tg) : PV := .agg [.int .i64 t.k, .int .i64 t.key.1, .str t.key.2.1, .str t.key.2.2, .int .i64 t.ev.1, .str t.ev.2.1, .str t.ev.2.2, .str t.nm, .int .i64 t.n, .int .i64 t.m]
def okTg (t : Tg) : Prop := inI t.k ∧ okKy t.key ∧ okKy t.ev ∧ t.nm.length ≤ maxLen ∧ inI t.n ∧ inI t.m
theorem hasV_tg {p : PV} (h : HasV Tryz.prog 58 p) : ∃ t : Tg, p = tgV t ∧ okTg t := by
  obtain ⟨n, cs, rfl, hlen, hf⟩ := hasV_struct uTG_ fTG_ h
  rw [cTG_] at hlen
  match cs, hlen with
  | [a0, a1, a2, a3, a4, a5, a6, a7, a8, a9], _ =>
    have f0 := hf (3, 0) (by simp)
    have f1 := hf (26, 1) (by simp)
    have f2 := hf (56, 4) (by simp)
    have f3 := hf (9, 7) (by simp)
    have f4 := hf (3, 8) (by simp)
    have f5 := hf (3, 9) (by simp)
    simp only [cInt, cStr, cKy, cEV] at f0 f1 f2 f3 f4 f5
    have f1' : HasV Tryz.prog 26 (.agg [a1, a2, a3]) := ⟨n, [a1, a2, a3], by unfold mkV; rw [if_pos aggKy], fun _ => by rw [cKy]; rfl, f1⟩
    have f2' : HasV Tryz.prog 56 (.agg [a4, a5, a6]) := ⟨n, [a4, a5, a6], by unfold mkV; rw [if_pos aggEV], fun _ => by rw [cEV]; rfl, f2⟩
    obtain ⟨k, e0, h0⟩ := hasT_i64 (P := Tryz.prog) Tryz.underlying3 f0
    obtain ⟨ky, e1, h1⟩ := hasV_key f1'
    obtain ⟨ek, e2, h2⟩ := hasV_event f2'
    obtain ⟨s, e3, h3⟩ := hasT_str (P := Tryz.prog) Tryz.underlying9 f3
    obtain ⟨x, e4, h4⟩ := hasT_i64 (P := Tryz.prog) Tryz.underlying3 f4
    obtain ⟨y, e5, h5⟩ := hasT_i64 (P := Tryz.prog) Tryz.underlying3 f5
    unfold kyV at e1 e2
    simp only [List.drop_succ_cons, List.drop_zero, List.take_succ_cons, List.take_zero, List.cons.injEq, and_true, PV.agg.injEq] at e0 e1 e2 e3 e4 e5
    obtain ⟨e11, e12, e13⟩ := e1
    obtain ⟨e21, e22, e23⟩ := e2
    subst e0 e11 e12 e13 e21 e22 e23 e3 e4 e5
    exact ⟨⟨k, ky, ek, s, x, y⟩, rfl, h0, h1, h2, h3, h4, h5⟩
/-- the cells of an expression -/
def trC (t : Tr) : List PV := (trV t).cells
theorem trV_agg (t : Tr) : trV t = .agg (trC t) := by
  obtain ⟨k, n, m, nm, v, key, kids⟩ := t
  unfold trC trV
  rfl
theorem trC_len (t : Tr) : (trC t).length = 11 := by
  obtain ⟨k, n, m, nm, v, key, kids⟩ := t
  unfold trC trV
  rfl
/-- a step -/
structure Sp where
  k : Int
  key : Ky
  nm : List UInt8
  ex : Tr
def spV (s : Sp) : PV := .agg ([.int .i64 s.k, .int .i64 s.key.1, .str s.key.2.1, .str s.key.2.2, .str s.nm] ++ trC s.ex)
def okSp (s : Sp) : Prop := inI s.k ∧ okKy s.key ∧ s.nm.length ≤ maxLen ∧ okTr s.ex
theorem hasV_sp {p : PV} (h : HasV Tryz.prog 60 p) : ∃ s : Sp, p = spV s ∧ okSp s := by
  obtain ⟨n, cs, rfl, hlen, hf⟩ := hasV_struct uSP fSP h
  rw [cSP] at hlen
  match cs, hlen with
  | a0 :: a1 :: a2 :: a3 :: a4 :: r, hlen =>
    have hr : r.length = 11 := by simpa using hlen
    have f0 := hf (3, 0) (by simp)
    have f1 := hf (26, 1) (by simp)
    have f2 := hf (9, 4) (by simp)
    have f3 := hf (29, 5) (by simp)
    simp only [cInt, cStr, cKy, cTr] at f0 f1 f2 f3
    have f1' : HasV Tryz.prog 26 (.agg [a1, a2, a3]) := ⟨n, [a1, a2, a3], by unfold mkV; rw [if_pos aggKy], fun _ => by rw [cKy]; rfl, f1⟩
    have hrt : ((a0 :: a1 :: a2 :: a3 :: a4 :: r).drop 5).take 11 = r := by
      show r.take 11 = r
      exact List.take_of_length_le (by omega)
    rw [hrt] at f3
    obtain ⟨k, e0, h0⟩ := hasT_i64 (P := Tryz.prog) Tryz.underlying3 f0
    obtain ⟨ky, e1, h1⟩ := hasV_key f1'
    obtain ⟨s, e2, h2⟩ := hasT_str (P := Tryz.prog) Tryz.underlying9 f2
    obtain ⟨t, e3, h3⟩ := hasT_tr (n + 1) n (by omega) r hr f3
    unfold kyV at e1
    simp only [List.drop_succ_cons, List.drop_zero, List.take_succ_cons, List.take_zero, List.cons.injEq, and_true, PV.agg.injEq] at e0 e1 e2
    obtain ⟨e11, e12, e13⟩ := e1
    rw [trV_agg] at e3
    injection e3 with e3
    subst e0 e11 e12 e13 e2 e3
    exact ⟨⟨k, ky, s, t⟩, rfl, h0, h1, h2, h3⟩
/-- a rule -/
structure Rl where
  nm : List UInt8
  pr : Int
  on : List Tg
  ife : Tr
  dos : List Sp
def rlV (r : Rl) : PV := .agg ([.str r.nm, .int .i64 r.pr, .sl (r.on.map tgV)] ++ (trC r.ife ++ [.sl (r.dos.map spV)]))
def okRl (r : Rl) : Prop := r.nm.length ≤ maxLen ∧ inI r.pr ∧ r.on.length ≤ maxLen ∧ (∀ t ∈ r.on, okTg t) ∧ okTr r.ife ∧ r.dos.length ≤ maxLen ∧ ∀ s ∈ r.dos, okSp s
theorem hasV_rl {p : PV} (h : HasV Tryz.prog 32 p) : ∃ r : Rl, p = rlV r ∧ okRl r := by
  obtain ⟨n, cs, rfl, hlen, hf⟩ := hasV_struct uRL fRL h
  rw [cRL] at hlen
  match cs, hlen with
  | a0 :: a1 :: a2 :: r, hlen =>
    have hr : r.length = 12 := by simpa using hlen
    have f0 := hf (9, 0) (by simp)
    have f1 := hf (3, 1) (by simp)
    have f2 := hf (22, 2) (by simp)
    have f3 := hf (29, 3) (by simp)
    have f4 := hf (30, 14) (by simp)
    simp only [cInt, cStr, cTgs, cSps, cTr] at f0 f1 f2 f3 f4
    have hrt : ((a0 :: a1 :: a2 :: r).drop 3).take 11 = r.take 11 := rfl
    have hrd : ((a0 :: a1 :: a2 :: r).drop 14).take 1 = r.drop 11 := by
      show (r.drop 11).take 1 = r.drop 11
      exact List.take_of_length_le (by rw [List.length_drop]; omega)
    rw [hrt] at f3
    rw [hrd] at f4
    obtain ⟨s, e0, h0⟩ := hasT_str (P := Tryz.prog) Tryz.underlying9 f0
    obtain ⟨k, e1, h1⟩ := hasT_i64 (P := Tryz.prog) Tryz.underlying3 f1
    obtain ⟨xs, e2, h2, h2'⟩ := hasT_slice (P := Tryz.prog) uTgs f2
    obtain ⟨on, rfl, hon⟩ := list_of (f := tgV) (Q := okTg) xs (fun x hx => hasV_tg (h2' x hx))
    obtain ⟨t, e3, h3⟩ := hasT_tr (n + 1) n (by omega) (r.take 11) (by rw [List.length_take]; omega) f3
    obtain ⟨ys, e4, h4, h4'⟩ := hasT_slice (P := Tryz.prog) uSps f4
    obtain ⟨dos, rfl, hdo⟩ := list_of (f := spV) (Q := okSp) ys (fun x hx => hasV_sp (h4' x hx))
    simp only [List.drop_succ_cons, List.drop_zero, List.take_succ_cons, List.take_zero, List.cons.injEq, and_true] at e0 e1 e2
    rw [trV_agg] at e3
    injection e3 with e3
    have he : r = trC t ++ [.sl (dos.map spV)] := by rw [← e3, ← e4, List.take_append_drop]
    subst e0 e1 e2 he
    exact ⟨⟨s, k, on, t, dos⟩, rfl, h0, h1, by simpa using h2, hon, h3, by simpa using h4, hdo⟩
theorem pureL_app (a b : List PV) : pureL (a ++ b) = (pureL a && pureL b) := by
  induction a with
  | nil => rfl
  | cons x r ih => rw [List.cons_append, pureL_cons, pureL_cons, ih, Bool.and_assoc]
theorem trC_pure (t : Tr) : pureL (trC t) = true := by
  have h := trV_pure t
  rw [trV_agg] at h
  unfold PV.pure at h
  exact h
def ltT (n : Int) : Tr := .mk 1 0 0 [] (2, n, []) (0, [], []) []
def flT (n : Int) : Tr := .mk 1 0 0 [] (1, n, []) (0, [], []) []
def atT : Tr := .mk 2 0 0 [] (0, 0, []) (3, [108, 101, 118, 101, 108], [108, 101, 118, 101, 108]) []
def opT (k : Int) (kids : List Tr) : Tr := .mk k 0 0 [] (0, 0, []) (0, [], []) kids
def exR : Rl := ⟨[97], 0, [⟨5, (0, [], []), (0, [], []), [], 0, 0⟩], flT 1, [⟨4, (0, [], []), [97, 119, 97, 121], .mk 0 0 0 [] (0, 0, []) (0, [], []) []⟩]⟩
/-- a call that returns a text and an error -/
noncomputable def chkTE (f : FuncId) (a : PV) (s : List UInt8) (e : Int) : Bool := match callF CC 130 f [a] [] with
  | some (.ret (.tup [.str t, .int .i64 x]), _) => t == s && x == e
  | _ => false
theorem of_chkTE {f : FuncId} {a : PV} {s : List UInt8} {e : Int} (hp : a.pure = true) (h : chkTE f a s e = true) (bx) : callOp CC (callL CC) f [a] bx = some (.ret (.tup [.str s, .int .i64 e]), bx) := by
  unfold chkTE at h
  split at h
  · rename_i t x b hs
    rw [Bool.and_eq_true] at h
    have e1 : t = s := by simpa using h.1
    have e2 : x = e := by simpa using h.2
    subst e1 e2
    exact callOp_of rfl (by simp only [pureL, hp, Bool.and_true]) (callL_iff.2 ⟨130, hs⟩) rfl
  · cases h
def exS1 : List UInt8 := [53, 32, 60, 61, 32, 51, 46, 108, 101, 118, 101, 108, 46, 108, 101, 118, 101, 108]
theorem ex1 : chkTE 14 (trV (opT 6 [opT 10 [atT, ltT 5]])) exS1 0 = true := by kernel_rfl
def exS2 : List UInt8 := [40, 49, 32, 43, 32, 50, 41, 32, 42, 32, 45, 51, 46, 108, 101, 118, 101, 108, 46, 108, 101, 118, 101, 108]
theorem ex2 : chkTE 14 (trV (opT 13 [opT 11 [ltT 1, ltT 2], opT 12 [ltT 0, atT]])) exS2 0 = true := by kernel_rfl
def exS3 : List UInt8 := [40, 116, 114, 117, 101, 32, 111, 114, 32, 102, 97, 108, 115, 101, 41, 32, 97, 110, 100, 32, 116, 114, 117, 101]
theorem ex3 : chkTE 14 (trV (opT 7 [opT 8 [flT 1, flT 0], flT 1])) exS3 0 = true := by kernel_rfl
def exS4 : List UInt8 := [48, 32, 45, 32, 45, 53]
theorem ex4 : chkTE 14 (trV (opT 12 [ltT 0, ltT (-5)])) exS4 0 = true := by kernel_rfl
def exS5 : List UInt8 := [114, 117, 108, 101, 32, 97, 32, 112, 114, 105, 111, 114, 105, 116, 121, 32, 48, 32, 123, 10, 32, 32, 111, 110, 32, 115, 116, 97, 114, 116, 59, 10, 32, 32, 100, 111, 32, 109, 111, 100, 101, 32, 97, 119, 97, 121, 59, 10, 125, 10]
theorem ex5 : chkTE 19 (.sl [rlV exR]) exS5 0 = true := by kernel_rfl
theorem ex6 : chkTE 19 (.sl [rlV exR, rlV exR]) [] 9 = true := by kernel_rfl
theorem op_ex1 (bx) : callOp CC (callL CC) 14 [trV (opT 6 [opT 10 [atT, ltT 5]])] bx = some (.ret (.tup [.str exS1, .int .i64 0]), bx) := of_chkTE rfl ex1 bx
theorem op_ex2 (bx) : callOp CC (callL CC) 14 [trV (opT 13 [opT 11 [ltT 1, ltT 2], opT 12 [ltT 0, atT]])] bx = some (.ret (.tup [.str exS2, .int .i64 0]), bx) := of_chkTE rfl ex2 bx
theorem op_ex3 (bx) : callOp CC (callL CC) 14 [trV (opT 7 [opT 8 [flT 1, flT 0], flT 1])] bx = some (.ret (.tup [.str exS3, .int .i64 0]), bx) := of_chkTE rfl ex3 bx
theorem op_ex4 (bx) : callOp CC (callL CC) 14 [trV (opT 12 [ltT 0, ltT (-5)])] bx = some (.ret (.tup [.str exS4, .int .i64 0]), bx) := of_chkTE rfl ex4 bx
theorem op_ex5 (bx) : callOp CC (callL CC) 19 [.sl [rlV exR]] bx = some (.ret (.tup [.str exS5, .int .i64 0]), bx) := of_chkTE rfl ex5 bx
theorem op_ex6 (bx) : callOp CC (callL CC) 19 [.sl [rlV exR, rlV exR]] bx = some (.ret (.tup [.str [], .int .i64 9]), bx) := of_chkTE rfl ex6 bx
set_option maxHeartbeats 4000000
theorem ok_L30_awake : fnOK CC Tryz.f10 (Tryz.f10.body.getD .skip) = true := by kernel_rfl
theorem fat_L30_awake : CC.P.funcs[10]? = some Tryz.f10 := by kernel_rfl
theorem ok_L30_lit : fnOK CC Tryz.f28 (Tryz.f28.body.getD .skip) = true := by kernel_rfl
theorem fat_L30_lit : CC.P.funcs[28]? = some Tryz.f28 := by kernel_rfl
theorem ok_L30_op : fnOK CC Tryz.f27 (Tryz.f27.body.getD .skip) = true := by kernel_rfl
theorem fat_L30_op : CC.P.funcs[27]? = some Tryz.f27 := by kernel_rfl
theorem ok_R28_Flag : fnOK CC Tryz.f26 (Tryz.f26.body.getD .skip) = true := by kernel_rfl
theorem fat_R28_Flag : CC.P.funcs[26]? = some Tryz.f26 := by kernel_rfl
theorem ok_R28_Lit : fnOK CC Tryz.f55 (Tryz.f55.body.getD .skip) = true := by kernel_rfl
theorem fat_R28_Lit : CC.P.funcs[55]? = some Tryz.f55 := by kernel_rfl
/-- an expression whose kids are nil -/
def lfP (k : Int) (v : Vl) (key : Ky) : PV := .agg [.int .i64 k, .int .i64 0, .int .i64 0, .str [], .int .i64 v.1, .int .i64 v.2.1, .str v.2.2, .int .i64 key.1, .str key.2.1, .str key.2.2, .nils]
def knP (k : Int) (kids : List PV) : PV := .agg [.int .i64 k, .int .i64 0, .int .i64 0, .str [], .int .i64 0, .int .i64 0, .str [], .int .i64 0, .str [], .str [], .sl kids]
theorem buildLf (n : Int) : buildP CC 24 [(0, .int .i64 2), (1, .int .i64 n)] = some (.agg [.int .i64 2, .int .i64 n, .str []]) := by kernel_rfl
theorem buildFl1 : buildP CC 24 [(0, .int .i64 1), (1, .int .i64 1)] = some (.agg [.int .i64 1, .int .i64 1, .str []]) := by kernel_rfl
theorem buildFl0 : buildP CC 24 [(0, .int .i64 1)] = some (.agg [.int .i64 1, .int .i64 0, .str []]) := by kernel_rfl
theorem buildEx (a n : Int) (s : List UInt8) : buildP CC 29 [(0, .int .i64 1), (4, .agg [.int .i64 a, .int .i64 n, .str s])] = some (lfP 1 (a, n, s) (0, [], [])) := by kernel_rfl
theorem EXf : zeroCells CC 29 = some [.int .i64 0, .int .i64 0, .int .i64 0, .str [], .int .i64 0, .int .i64 0, .str [], .int .i64 0, .str [], .str [], .nils] := by kernel_rfl
def lsP (k : Int) (v : Vl) (key : Ky) : PV := .agg [.int .i64 k, .int .i64 0, .int .i64 0, .str [], .int .i64 v.1, .int .i64 v.2.1, .str v.2.2, .int .i64 key.1, .str key.2.1, .str key.2.2, .sl []]
theorem lsP_lt (n : Int) : lsP 1 (2, n, []) (0, [], []) = trV (ltT n) := by unfold ltT trV trVs; rfl
theorem lsP_fl (n : Int) : lsP 1 (1, n, []) (0, [], []) = trV (flT n) := by unfold flT trV trVs; rfl
theorem call_lit (n : Int) : ∃ bx, callL CC 28 [.int .i64 n] [] = some (.ret (lsP 1 (2, n, []) (0, [], [])), bx) := by
  rw [callL_enter (fn := Tryz.f28) (c := Tryz.f28.body.getD .skip) rfl rfl fat_L30_lit rfl ok_L30_lit (Nat.le_of_ble_eq_true rfl)]
  obtain ⟨tu, htu⟩ := VLs
  obtain ⟨tr, htr⟩ := TRs
  obtain ⟨tk, hky⟩ := KYs
  obtain ⟨ev, eo, so, co, ⟨hev, hco⟩, R⟩ := RULES CC; rw [← hev]
  simp only [fpart, part', Tryz.f28, Option.getD]
  simp (maxSteps := 5000000) only [SA, SB, SD, R, guardAt, binP, intP, indexAddrP, elemsOf, readCells, lenP, lenAt, resultsP, resultP, oneOr, reduceCtorEq, reduceIte, Nat.reduceEqDiff, Nat.reduceAdd, Nat.zero_add, Nat.reduceMul, Nat.reduceLT, Nat.reduceLeDiff, Int.reduceLT, Int.reduceNeg, Int.reduceLE, appendP, appendAt, letGo, setLoc, locVal, Int.reduceToNat, boxCells, und, TG, SE, SC, EXf, List.getElem?_cons_zero, List.getElem?_cons_succ, unP, htu, htr, hky, buildLf, buildFl1, buildFl0, buildEx, loadR, loadP, storeR, storeK, storeCellsP, laid, lay, setBox, List.set_cons_zero, List.set_cons_succ, List.length_cons, List.length_nil, Nat.le_refl, Option.map_some, List.take_succ_cons, List.take_zero, List.drop_succ_cons, List.drop_zero, List.drop_nil, List.filter_nil, List.nil_append, List.cons_append, Int.reduceBEq, Int.reduceBNe, Int.reduceGT, Int.reduceGE, Bool.not_true, Bool.not_false, hky]
  unfold lfP lsP
  simp (maxSteps := 5000000) only [SA, SB, SD, R, guardAt, binP, intP, indexAddrP, elemsOf, readCells, lenP, lenAt, resultsP, resultP, oneOr, reduceCtorEq, reduceIte, Nat.reduceEqDiff, Nat.reduceAdd, Nat.zero_add, Nat.reduceMul, Nat.reduceLT, Nat.reduceLeDiff, Int.reduceLT, Int.reduceNeg, Int.reduceLE, appendP, appendAt, letGo, setLoc, locVal, Int.reduceToNat, boxCells, und, TG, SE, SC, EXf, List.getElem?_cons_zero, List.getElem?_cons_succ, unP, htu, htr, hky, buildLf, buildFl1, buildFl0, buildEx, loadR, loadP, storeR, storeK, storeCellsP, laid, lay, setBox, List.set_cons_zero, List.set_cons_succ, List.length_cons, List.length_nil, Nat.le_refl, Option.map_some, List.take_succ_cons, List.take_zero, List.drop_succ_cons, List.drop_zero, List.drop_nil, List.filter_nil, List.nil_append, List.cons_append, Int.reduceBEq, Int.reduceBNe, Int.reduceGT, Int.reduceGE, Bool.not_true, Bool.not_false, hky]
  exact ⟨_, rfl⟩
theorem op_lit (n : Int) (bx) : callOp CC (callL CC) 28 [.int .i64 n] bx = some (.ret (trV (ltT n)), bx) := by
  obtain ⟨b, h⟩ := call_lit n
  rw [← lsP_lt]
  exact callOp_of rfl rfl h rfl
theorem call_Lit (a n : Int) (s : List UInt8) : ∃ bx, callL CC 55 [.agg [.int .i64 a, .int .i64 n, .str s]] [] = some (.ret (lsP 1 (a, n, s) (0, [], [])), bx) := by
  rw [callL_enter (fn := Tryz.f55) (c := Tryz.f55.body.getD .skip) rfl rfl fat_R28_Lit rfl ok_R28_Lit (Nat.le_of_ble_eq_true rfl)]
  obtain ⟨tu, htu⟩ := VLs
  obtain ⟨tr, htr⟩ := TRs
  obtain ⟨tk, hky⟩ := KYs
  obtain ⟨ev, eo, so, co, ⟨hev, hco⟩, R⟩ := RULES CC; rw [← hev]
  simp only [fpart, part', Tryz.f55, Option.getD]
  simp (maxSteps := 5000000) only [SA, SB, SD, R, guardAt, binP, intP, indexAddrP, elemsOf, readCells, lenP, lenAt, resultsP, resultP, oneOr, reduceCtorEq, reduceIte, Nat.reduceEqDiff, Nat.reduceAdd, Nat.zero_add, Nat.reduceMul, Nat.reduceLT, Nat.reduceLeDiff, Int.reduceLT, Int.reduceNeg, Int.reduceLE, appendP, appendAt, letGo, setLoc, locVal, Int.reduceToNat, boxCells, und, TG, SE, SC, EXf, List.getElem?_cons_zero, List.getElem?_cons_succ, unP, htu, htr, hky, buildLf, buildFl1, buildFl0, buildEx, loadR, loadP, storeR, storeK, storeCellsP, laid, lay, setBox, List.set_cons_zero, List.set_cons_succ, List.length_cons, List.length_nil, Nat.le_refl, Option.map_some, List.take_succ_cons, List.take_zero, List.drop_succ_cons, List.drop_zero, List.drop_nil, List.filter_nil, List.nil_append, List.cons_append, Int.reduceBEq, Int.reduceBNe, Int.reduceGT, Int.reduceGE, Bool.not_true, Bool.not_false, hky]
  unfold lfP lsP
  simp (maxSteps := 5000000) only [SA, SB, SD, R, guardAt, binP, intP, indexAddrP, elemsOf, readCells, lenP, lenAt, resultsP, resultP, oneOr, reduceCtorEq, reduceIte, Nat.reduceEqDiff, Nat.reduceAdd, Nat.zero_add, Nat.reduceMul, Nat.reduceLT, Nat.reduceLeDiff, Int.reduceLT, Int.reduceNeg, Int.reduceLE, appendP, appendAt, letGo, setLoc, locVal, Int.reduceToNat, boxCells, und, TG, SE, SC, EXf, List.getElem?_cons_zero, List.getElem?_cons_succ, unP, htu, htr, hky, buildLf, buildFl1, buildFl0, buildEx, loadR, loadP, storeR, storeK, storeCellsP, laid, lay, setBox, List.set_cons_zero, List.set_cons_succ, List.length_cons, List.length_nil, Nat.le_refl, Option.map_some, List.take_succ_cons, List.take_zero, List.drop_succ_cons, List.drop_zero, List.drop_nil, List.filter_nil, List.nil_append, List.cons_append, Int.reduceBEq, Int.reduceBNe, Int.reduceGT, Int.reduceGE, Bool.not_true, Bool.not_false, hky]
  exact ⟨_, rfl⟩
theorem op_Lit (a n : Int) (s : List UInt8) (bx) : callOp CC (callL CC) 55 [.agg [.int .i64 a, .int .i64 n, .str s]] bx = some (.ret (lsP 1 (a, n, s) (0, [], [])), bx) := by
  obtain ⟨b, h⟩ := call_Lit a n s
  exact callOp_of rfl rfl h rfl
theorem call_Flag (b : Bool) : ∃ bx, callL CC 26 [.bool b] [] = some (.ret (lsP 1 (1, if b then 1 else 0, []) (0, [], [])), bx) := by
  have o1 := op_Lit 1 1 []
  have o0 := op_Lit 1 0 []
  rw [callL_enter (fn := Tryz.f26) (c := Tryz.f26.body.getD .skip) rfl rfl fat_R28_Flag rfl ok_R28_Flag (Nat.le_of_ble_eq_true rfl)]
  obtain ⟨tu, htu⟩ := VLs
  obtain ⟨tr, htr⟩ := TRs
  obtain ⟨tk, hky⟩ := KYs
  cases b with
  | true =>
    obtain ⟨ev, eo, so, co, ⟨hev, hco⟩, R⟩ := RULES CC; rw [← hev]
    rw [← hco] at o1 o0
    simp only [fpart, part', Tryz.f26, Option.getD]
    unfold lsP at o1 o0 ⊢
    simp (maxSteps := 5000000) only [SA, SB, SD, R, guardAt, binP, intP, indexAddrP, elemsOf, readCells, lenP, lenAt, resultsP, resultP, oneOr, reduceCtorEq, reduceIte, Nat.reduceEqDiff, Nat.reduceAdd, Nat.zero_add, Nat.reduceMul, Nat.reduceLT, Nat.reduceLeDiff, Int.reduceLT, Int.reduceNeg, Int.reduceLE, appendP, appendAt, letGo, setLoc, locVal, Int.reduceToNat, boxCells, und, TG, SE, SC, EXf, List.getElem?_cons_zero, List.getElem?_cons_succ, unP, htu, htr, hky, buildLf, buildFl1, buildFl0, buildEx, loadR, loadP, storeR, storeK, storeCellsP, laid, lay, setBox, List.set_cons_zero, List.set_cons_succ, List.length_cons, List.length_nil, Nat.le_refl, Option.map_some, List.take_succ_cons, List.take_zero, List.drop_succ_cons, List.drop_zero, List.drop_nil, List.filter_nil, List.nil_append, List.cons_append, Int.reduceBEq, Int.reduceBNe, Int.reduceGT, Int.reduceGE, Bool.not_true, Bool.not_false, o1, o0]
    exact ⟨_, rfl⟩
  | false =>
    obtain ⟨ev, eo, so, co, ⟨hev, hco⟩, R⟩ := RULES CC; rw [← hev]
    rw [← hco] at o1 o0
    simp only [fpart, part', Tryz.f26, Option.getD]
    unfold lsP at o1 o0 ⊢
    simp (maxSteps := 5000000) only [SA, SB, SD, R, guardAt, binP, intP, indexAddrP, elemsOf, readCells, lenP, lenAt, resultsP, resultP, oneOr, reduceCtorEq, reduceIte, Nat.reduceEqDiff, Nat.reduceAdd, Nat.zero_add, Nat.reduceMul, Nat.reduceLT, Nat.reduceLeDiff, Int.reduceLT, Int.reduceNeg, Int.reduceLE, appendP, appendAt, letGo, setLoc, locVal, Int.reduceToNat, boxCells, und, TG, SE, SC, EXf, List.getElem?_cons_zero, List.getElem?_cons_succ, unP, htu, htr, hky, buildLf, buildFl1, buildFl0, buildEx, loadR, loadP, storeR, storeK, storeCellsP, laid, lay, setBox, List.set_cons_zero, List.set_cons_succ, List.length_cons, List.length_nil, Nat.le_refl, Option.map_some, List.take_succ_cons, List.take_zero, List.drop_succ_cons, List.drop_zero, List.drop_nil, List.filter_nil, List.nil_append, List.cons_append, Int.reduceBEq, Int.reduceBNe, Int.reduceGT, Int.reduceGE, Bool.not_true, Bool.not_false, o1, o0]
    exact ⟨_, rfl⟩
theorem op_Flag (c : Bool) (bx) : callOp CC (callL CC) 26 [.bool c] bx = some (.ret (trV (flT (if c then 1 else 0))), bx) := by
  obtain ⟨b, h⟩ := call_Flag c
  rw [← lsP_fl]
  exact callOp_of rfl rfl h rfl
noncomputable def IEx : TypeInfo := (Tryz.prog.info? 29).getD default
theorem bsEx1 (pk pn pm pa pb pd : Int) (ps pt pu pv : List UInt8) (px : List PV) : buildSliceP CC 27 1 [(0, .agg [.int .i64 pk, .int .i64 pn, .int .i64 pm, .str ps, .int .i64 pa, .int .i64 pb, .str pt, .int .i64 pd, .str pu, .str pv, .sl px])] = some (.osl 29 [.agg [.int .i64 pk, .int .i64 pn, .int .i64 pm, .str ps, .int .i64 pa, .int .i64 pb, .str pt, .int .i64 pd, .str pu, .str pv, .sl px]]) := by
  have hz : tZero CC 29 = some (.agg [.int .i64 0, .int .i64 0, .int .i64 0, .str [], .int .i64 0, .int .i64 0, .str [], .int .i64 0, .str [], .str [], .nils]) := by kernel_rfl
  have hi : CC.P.info? 29 = some IEx := by kernel_rfl
  have hs : IEx.size = 11 := by kernel_rfl
  have hu : CC.P.underlying 27 = some (.slice 29) := by kernel_rfl
  have ht : tAgg CC 29 = true := by kernel_rfl
  have hp : sealNew true 11 (.agg [.int .i64 pk, .int .i64 pn, .int .i64 pm, .str ps, .int .i64 pa, .int .i64 pb, .str pt, .int .i64 pd, .str pu, .str pv, .sl px]) = some (.agg [.int .i64 pk, .int .i64 pn, .int .i64 pm, .str ps, .int .i64 pa, .int .i64 pb, .str pt, .int .i64 pd, .str pu, .str pv, .sl px]) := rfl
  unfold buildSliceP
  simp only [hu, hz, hi, hs, ht, List.foldlM_cons, List.foldlM_nil, hp]
  rfl
theorem bsEx2 (pk pn pm pa pb pd qk qn qm qa qb qd : Int) (ps pt pu pv qs qt qu qv : List UInt8) (px qx : List PV) : buildSliceP CC 27 2 [(0, .agg [.int .i64 pk, .int .i64 pn, .int .i64 pm, .str ps, .int .i64 pa, .int .i64 pb, .str pt, .int .i64 pd, .str pu, .str pv, .sl px]), (1, .agg [.int .i64 qk, .int .i64 qn, .int .i64 qm, .str qs, .int .i64 qa, .int .i64 qb, .str qt, .int .i64 qd, .str qu, .str qv, .sl qx])] = some (.osl 29 [.agg [.int .i64 pk, .int .i64 pn, .int .i64 pm, .str ps, .int .i64 pa, .int .i64 pb, .str pt, .int .i64 pd, .str pu, .str pv, .sl px], .agg [.int .i64 qk, .int .i64 qn, .int .i64 qm, .str qs, .int .i64 qa, .int .i64 qb, .str qt, .int .i64 qd, .str qu, .str qv, .sl qx]]) := by
  have hz : tZero CC 29 = some (.agg [.int .i64 0, .int .i64 0, .int .i64 0, .str [], .int .i64 0, .int .i64 0, .str [], .int .i64 0, .str [], .str [], .nils]) := by kernel_rfl
  have hi : CC.P.info? 29 = some IEx := by kernel_rfl
  have hs : IEx.size = 11 := by kernel_rfl
  have hu : CC.P.underlying 27 = some (.slice 29) := by kernel_rfl
  have ht : tAgg CC 29 = true := by kernel_rfl
  have hp : sealNew true 11 (.agg [.int .i64 pk, .int .i64 pn, .int .i64 pm, .str ps, .int .i64 pa, .int .i64 pb, .str pt, .int .i64 pd, .str pu, .str pv, .sl px]) = some (.agg [.int .i64 pk, .int .i64 pn, .int .i64 pm, .str ps, .int .i64 pa, .int .i64 pb, .str pt, .int .i64 pd, .str pu, .str pv, .sl px]) := rfl
  have hq : sealNew true 11 (.agg [.int .i64 qk, .int .i64 qn, .int .i64 qm, .str qs, .int .i64 qa, .int .i64 qb, .str qt, .int .i64 qd, .str qu, .str qv, .sl qx]) = some (.agg [.int .i64 qk, .int .i64 qn, .int .i64 qm, .str qs, .int .i64 qa, .int .i64 qb, .str qt, .int .i64 qd, .str qu, .str qv, .sl qx]) := rfl
  unfold buildSliceP
  simp only [hu, hz, hi, hs, ht, List.foldlM_cons, List.foldlM_nil, hp, hq]
  rfl
theorem buildKids (k : Int) (xs : List PV) : buildP CC 29 [(0, .int .i64 k), (6, .sl xs)] = some (.agg [.int .i64 k, .int .i64 0, .int .i64 0, .str [], .int .i64 0, .int .i64 0, .str [], .int .i64 0, .str [], .str [], .sl xs]) := by kernel_rfl
theorem call_op (k : Int) (a b : Tr) : ∃ bx, callL CC 27 [.int .i64 k, trV a, trV b] [] = some (.ret (knP k [trV a, trV b]), bx) := by
  obtain ⟨ak, an, am, anm, av, akey, akids⟩ := a
  obtain ⟨bk, bn, bm, bnm, bv, bkey, bkids⟩ := b
  unfold knP trV
  generalize trVs akids = xs
  generalize trVs bkids = ys
  rw [callL_enter (fn := Tryz.f27) (c := Tryz.f27.body.getD .skip) rfl rfl fat_L30_op rfl ok_L30_op (Nat.le_of_ble_eq_true rfl)]
  obtain ⟨tu, htu⟩ := VLs
  obtain ⟨tr, htr⟩ := TRs
  obtain ⟨tk, hky⟩ := KYs
  obtain ⟨ev, eo, so, co, ⟨hev, hco⟩, R⟩ := RULES CC; rw [← hev]
  simp only [fpart, part', Tryz.f27, Option.getD]
  simp (maxSteps := 5000000) only [SA, SB, SD, R, guardAt, binP, intP, indexAddrP, elemsOf, readCells, lenP, lenAt, resultsP, resultP, oneOr, reduceCtorEq, reduceIte, Nat.reduceEqDiff, Nat.reduceAdd, Nat.zero_add, Nat.reduceMul, Nat.reduceLT, Nat.reduceLeDiff, Int.reduceLT, Int.reduceNeg, Int.reduceLE, appendP, appendAt, letGo, setLoc, locVal, Int.reduceToNat, boxCells, und, TG, SE, SC, EXf, List.getElem?_cons_zero, List.getElem?_cons_succ, unP, htu, htr, hky, buildLf, buildFl1, buildFl0, buildEx, loadR, loadP, storeR, storeK, storeCellsP, laid, lay, setBox, List.set_cons_zero, List.set_cons_succ, List.length_cons, List.length_nil, Nat.le_refl, Option.map_some, List.take_succ_cons, List.take_zero, List.drop_succ_cons, List.drop_zero, List.drop_nil, List.filter_nil, List.nil_append, List.cons_append, Int.reduceBEq, Int.reduceBNe, Int.reduceGT, Int.reduceGE, Bool.not_true, Bool.not_false, bsEx2, buildKids]
  exact ⟨_, rfl⟩
theorem trV_pure' (t : Tr) : (trV t).pure = true := by rw [trV_agg]; simp only [PV.pure, trC_pure]
theorem op_op (k : Int) (a b : Tr) (bx) : callOp CC (callL CC) 27 [.int .i64 k, trV a, trV b] bx = some (.ret (knP k [trV a, trV b]), bx) := by
  obtain ⟨c, h⟩ := call_op k a b
  exact callOp_of rfl (by simp only [pureL, PV.pure, trV_pure', Bool.and_self]) h (by simp only [knP, pureL, PV.pure, trV_pure', Bool.and_self])
theorem op_opL (k pk pn pm pa pb pd qk qn qm qa qb qd : Int) (ps pt pu pv qs qt qu qv : List UInt8) (px qx : List PV) (hp : pureL px = true) (hq : pureL qx = true) (bx) : callOp CC (callL CC) 27 [.int .i64 k, .agg [.int .i64 pk, .int .i64 pn, .int .i64 pm, .str ps, .int .i64 pa, .int .i64 pb, .str pt, .int .i64 pd, .str pu, .str pv, .sl px], .agg [.int .i64 qk, .int .i64 qn, .int .i64 qm, .str qs, .int .i64 qa, .int .i64 qb, .str qt, .int .i64 qd, .str qu, .str qv, .sl qx]] bx = some (.ret (.agg [.int .i64 k, .int .i64 0, .int .i64 0, .str [], .int .i64 0, .int .i64 0, .str [], .int .i64 0, .str [], .str [], .sl [.agg [.int .i64 pk, .int .i64 pn, .int .i64 pm, .str ps, .int .i64 pa, .int .i64 pb, .str pt, .int .i64 pd, .str pu, .str pv, .sl px], .agg [.int .i64 qk, .int .i64 qn, .int .i64 qm, .str qs, .int .i64 qa, .int .i64 qb, .str qt, .int .i64 qd, .str qu, .str qv, .sl qx]]]), bx) := by
  have h : ∃ b, callL CC 27 [.int .i64 k, .agg [.int .i64 pk, .int .i64 pn, .int .i64 pm, .str ps, .int .i64 pa, .int .i64 pb, .str pt, .int .i64 pd, .str pu, .str pv, .sl px], .agg [.int .i64 qk, .int .i64 qn, .int .i64 qm, .str qs, .int .i64 qa, .int .i64 qb, .str qt, .int .i64 qd, .str qu, .str qv, .sl qx]] [] = some (.ret (.agg [.int .i64 k, .int .i64 0, .int .i64 0, .str [], .int .i64 0, .int .i64 0, .str [], .int .i64 0, .str [], .str [], .sl [.agg [.int .i64 pk, .int .i64 pn, .int .i64 pm, .str ps, .int .i64 pa, .int .i64 pb, .str pt, .int .i64 pd, .str pu, .str pv, .sl px], .agg [.int .i64 qk, .int .i64 qn, .int .i64 qm, .str qs, .int .i64 qa, .int .i64 qb, .str qt, .int .i64 qd, .str qu, .str qv, .sl qx]]]), b) := by
    rw [callL_enter (fn := Tryz.f27) (c := Tryz.f27.body.getD .skip) rfl rfl fat_L30_op rfl ok_L30_op (Nat.le_of_ble_eq_true rfl)]
    obtain ⟨tu, htu⟩ := VLs
    obtain ⟨tr, htr⟩ := TRs
    obtain ⟨tk, hky⟩ := KYs
    obtain ⟨ev, eo, so, co, ⟨hev, hco⟩, R⟩ := RULES CC; rw [← hev]
    simp only [fpart, part', Tryz.f27, Option.getD]
    simp (maxSteps := 5000000) only [SA, SB, SD, R, guardAt, binP, intP, indexAddrP, elemsOf, readCells, lenP, lenAt, resultsP, resultP, oneOr, reduceCtorEq, reduceIte, Nat.reduceEqDiff, Nat.reduceAdd, Nat.zero_add, Nat.reduceMul, Nat.reduceLT, Nat.reduceLeDiff, Int.reduceLT, Int.reduceNeg, Int.reduceLE, appendP, appendAt, letGo, setLoc, locVal, Int.reduceToNat, boxCells, und, TG, SE, SC, EXf, List.getElem?_cons_zero, List.getElem?_cons_succ, unP, htu, htr, hky, buildLf, buildFl1, buildFl0, buildEx, loadR, loadP, storeR, storeK, storeCellsP, laid, lay, setBox, List.set_cons_zero, List.set_cons_succ, List.length_cons, List.length_nil, Nat.le_refl, Option.map_some, List.take_succ_cons, List.take_zero, List.drop_succ_cons, List.drop_zero, List.drop_nil, List.filter_nil, List.nil_append, List.cons_append, Int.reduceBEq, Int.reduceBNe, Int.reduceGT, Int.reduceGE, Bool.not_true, Bool.not_false, bsEx2, buildKids]
    exact ⟨_, rfl⟩
  obtain ⟨b, h⟩ := h
  exact callOp_of rfl (by simp only [pureL, PV.pure, hp, hq, Bool.and_self]) h (by simp only [pureL, PV.pure, hp, hq, Bool.and_self])
theorem buildKy3 : buildP CC 26 [(0, .int .i64 3), (1, .str [108, 101, 118, 101, 108]), (2, .str [108, 101, 118, 101, 108])] = some (.agg [.int .i64 3, .str [108, 101, 118, 101, 108], .str [108, 101, 118, 101, 108]]) := by kernel_rfl
theorem buildAt : buildP CC 29 [(0, .int .i64 2), (5, .agg [.int .i64 3, .str [108, 101, 118, 101, 108], .str [108, 101, 118, 101, 108]])] = some (.agg [.int .i64 2, .int .i64 0, .int .i64 0, .str [], .int .i64 0, .int .i64 0, .str [], .int .i64 3, .str [108, 101, 118, 101, 108], .str [108, 101, 118, 101, 108], .nils]) := by kernel_rfl
theorem bldT : buildP CC 58 [(0, .int .i64 5)] = some (.agg [.int .i64 5, .int .i64 0, .str [], .str [], .int .i64 0, .str [], .str [], .str [], .int .i64 0, .int .i64 0]) := by kernel_rfl
theorem bldTs : buildSliceP CC 22 1 [(0, .agg [.int .i64 5, .int .i64 0, .str [], .str [], .int .i64 0, .str [], .str [], .str [], .int .i64 0, .int .i64 0])] = some (.osl 58 [.agg [.int .i64 5, .int .i64 0, .str [], .str [], .int .i64 0, .str [], .str [], .str [], .int .i64 0, .int .i64 0]]) := by kernel_rfl
theorem bldS : buildP CC 60 [(0, .int .i64 4), (2, .str [97, 119, 97, 121])] = some (.agg [.int .i64 4, .int .i64 0, .str [], .str [], .str [97, 119, 97, 121], .int .i64 0, .int .i64 0, .int .i64 0, .str [], .int .i64 0, .int .i64 0, .str [], .int .i64 0, .str [], .str [], .nils]) := by kernel_rfl
theorem bldSs : buildSliceP CC 30 1 [(0, .agg [.int .i64 4, .int .i64 0, .str [], .str [], .str [97, 119, 97, 121], .int .i64 0, .int .i64 0, .int .i64 0, .str [], .int .i64 0, .int .i64 0, .str [], .int .i64 0, .str [], .str [], .nils])] = some (.osl 60 [.agg [.int .i64 4, .int .i64 0, .str [], .str [], .str [97, 119, 97, 121], .int .i64 0, .int .i64 0, .int .i64 0, .str [], .int .i64 0, .int .i64 0, .str [], .int .i64 0, .str [], .str [], .sl []]]) := by kernel_rfl
theorem bldR : buildP CC 32 [(0, .str [97]), (2, .sl [.agg [.int .i64 5, .int .i64 0, .str [], .str [], .int .i64 0, .str [], .str [], .str [], .int .i64 0, .int .i64 0]]), (3, .agg [.int .i64 1, .int .i64 0, .int .i64 0, .str [], .int .i64 1, .int .i64 1, .str [], .int .i64 0, .str [], .str [], .sl []]), (4, .sl [.agg [.int .i64 4, .int .i64 0, .str [], .str [], .str [97, 119, 97, 121], .int .i64 0, .int .i64 0, .int .i64 0, .str [], .int .i64 0, .int .i64 0, .str [], .int .i64 0, .str [], .str [], .sl []]])] = some (.agg [.str [97], .int .i64 0, .sl [.agg [.int .i64 5, .int .i64 0, .str [], .str [], .int .i64 0, .str [], .str [], .str [], .int .i64 0, .int .i64 0]], .int .i64 1, .int .i64 0, .int .i64 0, .str [], .int .i64 1, .int .i64 1, .str [], .int .i64 0, .str [], .str [], .sl [], .sl [.agg [.int .i64 4, .int .i64 0, .str [], .str [], .str [97, 119, 97, 121], .int .i64 0, .int .i64 0, .int .i64 0, .str [], .int .i64 0, .int .i64 0, .str [], .int .i64 0, .str [], .str [], .sl []]]]) := by kernel_rfl
theorem bldRs1 : buildSliceP CC 41 1 [(0, .agg [.str [97], .int .i64 0, .sl [.agg [.int .i64 5, .int .i64 0, .str [], .str [], .int .i64 0, .str [], .str [], .str [], .int .i64 0, .int .i64 0]], .int .i64 1, .int .i64 0, .int .i64 0, .str [], .int .i64 1, .int .i64 1, .str [], .int .i64 0, .str [], .str [], .sl [], .sl [.agg [.int .i64 4, .int .i64 0, .str [], .str [], .str [97, 119, 97, 121], .int .i64 0, .int .i64 0, .int .i64 0, .str [], .int .i64 0, .int .i64 0, .str [], .int .i64 0, .str [], .str [], .sl []]]])] = some (.osl 32 [.agg [.str [97], .int .i64 0, .sl [.agg [.int .i64 5, .int .i64 0, .str [], .str [], .int .i64 0, .str [], .str [], .str [], .int .i64 0, .int .i64 0]], .int .i64 1, .int .i64 0, .int .i64 0, .str [], .int .i64 1, .int .i64 1, .str [], .int .i64 0, .str [], .str [], .sl [], .sl [.agg [.int .i64 4, .int .i64 0, .str [], .str [], .str [97, 119, 97, 121], .int .i64 0, .int .i64 0, .int .i64 0, .str [], .int .i64 0, .int .i64 0, .str [], .int .i64 0, .str [], .str [], .sl []]]]]) := by kernel_rfl
theorem bldRs2 : buildSliceP CC 41 2 [(0, .agg [.str [97], .int .i64 0, .sl [.agg [.int .i64 5, .int .i64 0, .str [], .str [], .int .i64 0, .str [], .str [], .str [], .int .i64 0, .int .i64 0]], .int .i64 1, .int .i64 0, .int .i64 0, .str [], .int .i64 1, .int .i64 1, .str [], .int .i64 0, .str [], .str [], .sl [], .sl [.agg [.int .i64 4, .int .i64 0, .str [], .str [], .str [97, 119, 97, 121], .int .i64 0, .int .i64 0, .int .i64 0, .str [], .int .i64 0, .int .i64 0, .str [], .int .i64 0, .str [], .str [], .sl []]]]), (1, .agg [.str [97], .int .i64 0, .sl [.agg [.int .i64 5, .int .i64 0, .str [], .str [], .int .i64 0, .str [], .str [], .str [], .int .i64 0, .int .i64 0]], .int .i64 1, .int .i64 0, .int .i64 0, .str [], .int .i64 1, .int .i64 1, .str [], .int .i64 0, .str [], .str [], .sl [], .sl [.agg [.int .i64 4, .int .i64 0, .str [], .str [], .str [97, 119, 97, 121], .int .i64 0, .int .i64 0, .int .i64 0, .str [], .int .i64 0, .int .i64 0, .str [], .int .i64 0, .str [], .str [], .sl []]]])] = some (.osl 32 [.agg [.str [97], .int .i64 0, .sl [.agg [.int .i64 5, .int .i64 0, .str [], .str [], .int .i64 0, .str [], .str [], .str [], .int .i64 0, .int .i64 0]], .int .i64 1, .int .i64 0, .int .i64 0, .str [], .int .i64 1, .int .i64 1, .str [], .int .i64 0, .str [], .str [], .sl [], .sl [.agg [.int .i64 4, .int .i64 0, .str [], .str [], .str [97, 119, 97, 121], .int .i64 0, .int .i64 0, .int .i64 0, .str [], .int .i64 0, .int .i64 0, .str [], .int .i64 0, .str [], .str [], .sl []]]], .agg [.str [97], .int .i64 0, .sl [.agg [.int .i64 5, .int .i64 0, .str [], .str [], .int .i64 0, .str [], .str [], .str [], .int .i64 0, .int .i64 0]], .int .i64 1, .int .i64 0, .int .i64 0, .str [], .int .i64 1, .int .i64 1, .str [], .int .i64 0, .str [], .str [], .sl [], .sl [.agg [.int .i64 4, .int .i64 0, .str [], .str [], .str [97, 119, 97, 121], .int .i64 0, .int .i64 0, .int .i64 0, .str [], .int .i64 0, .int .i64 0, .str [], .int .i64 0, .str [], .str [], .sl []]]]]) := by kernel_rfl
theorem exR_eq : rlV exR = .agg [.str [97], .int .i64 0, .sl [.agg [.int .i64 5, .int .i64 0, .str [], .str [], .int .i64 0, .str [], .str [], .str [], .int .i64 0, .int .i64 0]], .int .i64 1, .int .i64 0, .int .i64 0, .str [], .int .i64 1, .int .i64 1, .str [], .int .i64 0, .str [], .str [], .sl [], .sl [.agg [.int .i64 4, .int .i64 0, .str [], .str [], .str [97, 119, 97, 121], .int .i64 0, .int .i64 0, .int .i64 0, .str [], .int .i64 0, .int .i64 0, .str [], .int .i64 0, .str [], .str [], .sl []]]] := rfl
theorem RLz : zeroCells CC 32 = some [.str [], .int .i64 0, .nils, .int .i64 0, .int .i64 0, .int .i64 0, .str [], .int .i64 0, .int .i64 0, .str [], .int .i64 0, .str [], .str [], .nils, .nils] := by kernel_rfl
theorem strP_ne (s : List UInt8) : strP .neq s s = some (.bool false) := by simp [strP]
theorem strP_eq (s : List UInt8) : strP .eql s s = some (.bool true) := by simp [strP]
theorem call_awake : ∃ bx, callL CC 10 [] [] = some (.ret (.bool true), bx) := by
  have f1 := op_Flag true
  have f0 := op_Flag false
  have l0 := op_lit 0
  have l1 := op_lit 1
  have l2 := op_lit 2
  have l5 := op_lit 5
  have lm := op_lit (-5)
  have x1 := op_ex1
  have x2 := op_ex2
  have x3 := op_ex3
  have x4 := op_ex4
  have x5 := op_ex5
  have x6 := op_ex6
  have op := op_opL
  simp only [if_true, Bool.false_eq_true, if_false] at f1 f0
  simp only [trV, trVs, opT, ltT, atT, flT] at f1 f0 l0 l1 l2 l5 lm x1 x2 x3 x4
  unfold exS1 at x1
  unfold exS2 at x2
  unfold exS3 at x3
  unfold exS4 at x4
  unfold exS5 at x5
  rw [exR_eq] at x5 x6
  rw [callL_enter (fn := Tryz.f10) (c := Tryz.f10.body.getD .skip) rfl rfl fat_L30_awake rfl ok_L30_awake (Nat.le_of_ble_eq_true rfl)]
  obtain ⟨tu, htu⟩ := VLs
  obtain ⟨tr, htr⟩ := TRs
  obtain ⟨tk, hky⟩ := KYs
  obtain ⟨te, hev1⟩ := EVs
  obtain ⟨tg, htg⟩ := TG_s
  obtain ⟨tp, hsp⟩ := SPs
  obtain ⟨tl, hrl⟩ := RLs
  obtain ⟨ev, eo, so, co, ⟨hev, hco⟩, R⟩ := RULES CC; rw [← hev]
  rw [← hco] at f1 f0 l0 l1 l2 l5 lm x1 x2 x3 x4 x5 x6 op
  simp only [fpart, part', Tryz.f10, Option.getD]
  have t1 := op 10 2 0 0 0 0 3 1 0 0 2 5 0 [] [] [108, 101, 118, 101, 108] [108, 101, 118, 101, 108] [] [] [] [] [] [] rfl rfl
  have t2 := op 11 1 0 0 2 1 0 1 0 0 2 2 0 [] [] [] [] [] [] [] [] [] [] rfl rfl
  have t3 := op 12 1 0 0 2 0 0 2 0 0 0 0 3 [] [] [] [] [] [] [108, 101, 118, 101, 108] [108, 101, 118, 101, 108] [] [] rfl rfl
  have t4 := op 13 11 0 0 0 0 0 12 0 0 0 0 0 [] [] [] [] [] [] [] [] [.agg [.int .i64 1, .int .i64 0, .int .i64 0, .str [], .int .i64 2, .int .i64 1, .str [], .int .i64 0, .str [], .str [], .sl []], .agg [.int .i64 1, .int .i64 0, .int .i64 0, .str [], .int .i64 2, .int .i64 2, .str [], .int .i64 0, .str [], .str [], .sl []]] [.agg [.int .i64 1, .int .i64 0, .int .i64 0, .str [], .int .i64 2, .int .i64 0, .str [], .int .i64 0, .str [], .str [], .sl []], .agg [.int .i64 2, .int .i64 0, .int .i64 0, .str [], .int .i64 0, .int .i64 0, .str [], .int .i64 3, .str [108, 101, 118, 101, 108], .str [108, 101, 118, 101, 108], .sl []]] rfl rfl
  have t5 := op 8 1 0 0 1 1 0 1 0 0 1 0 0 [] [] [] [] [] [] [] [] [] [] rfl rfl
  have t6 := op 7 8 0 0 0 0 0 1 0 0 1 1 0 [] [] [] [] [] [] [] [] [.agg [.int .i64 1, .int .i64 0, .int .i64 0, .str [], .int .i64 1, .int .i64 1, .str [], .int .i64 0, .str [], .str [], .sl []], .agg [.int .i64 1, .int .i64 0, .int .i64 0, .str [], .int .i64 1, .int .i64 0, .str [], .int .i64 0, .str [], .str [], .sl []]] [] rfl rfl
  have t7 := op 12 1 0 0 2 0 0 1 0 0 2 (-5) 0 [] [] [] [] [] [] [] [] [] [] rfl rfl
  simp (maxSteps := 5000000) only [SA, SB, SD, R, guardAt, binP, intP, indexAddrP, elemsOf, readCells, lenP, lenAt, resultsP, resultP, oneOr, reduceCtorEq, reduceIte, Nat.reduceEqDiff, Nat.reduceAdd, Nat.zero_add, Nat.reduceMul, Nat.reduceLT, Nat.reduceLeDiff, Int.reduceLT, Int.reduceNeg, Int.reduceLE, appendP, appendAt, letGo, setLoc, locVal, Int.reduceToNat, boxCells, und, TG, SE, SC, EXf, List.getElem?_cons_zero, List.getElem?_cons_succ, unP, htu, htr, hky, buildLf, buildFl1, buildFl0, buildEx, loadR, loadP, storeR, storeK, storeCellsP, laid, lay, setBox, List.set_cons_zero, List.set_cons_succ, List.length_cons, List.length_nil, Nat.le_refl, Option.map_some, List.take_succ_cons, List.take_zero, List.drop_succ_cons, List.drop_zero, List.drop_nil, List.filter_nil, List.nil_append, List.cons_append, Int.reduceBEq, Int.reduceBNe, Int.reduceGT, Int.reduceGE, Bool.not_true, Bool.not_false, t1, t2, t3, t4, t5, t6, t7, bsEx1, buildKids, buildKy3, buildAt, f1, f0, l0, l1, l2, l5, lm, x1, x2, x3, x4, x5, x6, strP_ne, strP_eq, bldT, bldTs, bldS, bldSs, bldR, bldRs1, bldRs2, RLz, hrl, htg, hsp, hev1]
  exact ⟨_, rfl⟩
theorem op_awake (bx) : callOp CC (callL CC) 10 [] bx = some (.ret (.bool true), bx) := by
  obtain ⟨b, h⟩ := call_awake
  exact callOp_of rfl rfl h rfl
end Go.HH
