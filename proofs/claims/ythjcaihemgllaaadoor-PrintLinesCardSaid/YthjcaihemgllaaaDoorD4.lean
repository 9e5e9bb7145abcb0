/-
  For one seat, what its law needs of: P1, P2.
-/
import Derived.Test.YthjcaihemgllaaaDoorD3
namespace Go.HH
open Go Go.Proofs
set_option maxRecDepth 100000
set_option linter.unusedSimpArgs false
set_option linter.unusedVariables false
def ltT (n : Int) : Tr := .mk 1 0 0 [] (2, n, []) (0, [], []) []
def flT (n : Int) : Tr := .mk 1 0 0 [] (1, n, []) (0, [], []) []
def atT : Tr := .mk 2 0 0 [] (0, 0, []) (3, [108, 101, 118, 101, 108], [108, 101, 118, 101, 108]) []
def opT (k : Int) (kids : List Tr) : Tr := .mk k 0 0 [] (0, 0, []) (0, [], []) kids
def exR : Rl := ⟨[97], 0, [⟨5, (0, [], []), (0, [], []), [], 0, 0⟩], flT 1, [⟨4, (0, [], []), [97, 119, 97, 121], .mk 0 0 0 [] (0, 0, []) (0, [], []) []⟩]⟩
/-- a call that returns a text and an error -/
noncomputable def chkTE (f : FuncId) (a : PV) (s : List UInt8) (e : Int) : Bool := match callF CC 130 f [a] [] with
  | some (.ret (.tup [.str t, .int .i64 x]), _) => t == s && x == e
  | _ => false
theorem of_chkTE {f : FuncId} {a : PV} {s : List UInt8} {e : Int} (hp : a.pure = true) (h : chkTE f a s e = true) (bx) : callOp CC (callL CC) f [a] bx = some (.ret (.tup [.str s, .int .i64 e]), bx) := by
  unfold chkTE at h
  split at h
  · rename_i t x b hs
    rw [Bool.and_eq_true] at h
    have e1 : t = s := by simpa using h.1
    have e2 : x = e := by simpa using h.2
    subst e1 e2
    exact callOp_of rfl (by simp only [pureL, hp, Bool.and_true]) (callL_iff.2 ⟨130, hs⟩) rfl
  · cases h
def exS1 : List UInt8 := [53, 32, 60, 61, 32, 51, 46, 108, 101, 118, 101, 108, 46, 108, 101, 118, 101, 108]
theorem ex1 : chkTE 11 (trV (opT 6 [opT 10 [atT, ltT 5]])) exS1 0 = true := by kernel_rfl
def exS2 : List UInt8 := [40, 49, 32, 43, 32, 50, 41, 32, 42, 32, 45, 51, 46, 108, 101, 118, 101, 108, 46, 108, 101, 118, 101, 108]
theorem ex2 : chkTE 11 (trV (opT 13 [opT 11 [ltT 1, ltT 2], opT 12 [ltT 0, atT]])) exS2 0 = true := by kernel_rfl
def exS3 : List UInt8 := [40, 116, 114, 117, 101, 32, 111, 114, 32, 102, 97, 108, 115, 101, 41, 32, 97, 110, 100, 32, 116, 114, 117, 101]
theorem ex3 : chkTE 11 (trV (opT 7 [opT 8 [flT 1, flT 0], flT 1])) exS3 0 = true := by kernel_rfl
def exS4 : List UInt8 := [48, 32, 45, 32, 45, 53]
theorem ex4 : chkTE 11 (trV (opT 12 [ltT 0, ltT (-5)])) exS4 0 = true := by kernel_rfl
def exS5 : List UInt8 := [114, 117, 108, 101, 32, 97, 32, 112, 114, 105, 111, 114, 105, 116, 121, 32, 48, 32, 123, 10, 32, 32, 111, 110, 32, 115, 116, 97, 114, 116, 59, 10, 32, 32, 100, 111, 32, 109, 111, 100, 101, 32, 97, 119, 97, 121, 59, 10, 125, 10]
theorem ex5 : chkTE 14 (.sl [rlV exR]) exS5 0 = true := by kernel_rfl
theorem ex6 : chkTE 14 (.sl [rlV exR, rlV exR]) [] 9 = true := by kernel_rfl
theorem op_ex1 (bx) : callOp CC (callL CC) 11 [trV (opT 6 [opT 10 [atT, ltT 5]])] bx = some (.ret (.tup [.str exS1, .int .i64 0]), bx) := of_chkTE rfl ex1 bx
theorem op_ex2 (bx) : callOp CC (callL CC) 11 [trV (opT 13 [opT 11 [ltT 1, ltT 2], opT 12 [ltT 0, atT]])] bx = some (.ret (.tup [.str exS2, .int .i64 0]), bx) := of_chkTE rfl ex2 bx
theorem op_ex3 (bx) : callOp CC (callL CC) 11 [trV (opT 7 [opT 8 [flT 1, flT 0], flT 1])] bx = some (.ret (.tup [.str exS3, .int .i64 0]), bx) := of_chkTE rfl ex3 bx
theorem op_ex4 (bx) : callOp CC (callL CC) 11 [trV (opT 12 [ltT 0, ltT (-5)])] bx = some (.ret (.tup [.str exS4, .int .i64 0]), bx) := of_chkTE rfl ex4 bx
theorem op_ex5 (bx) : callOp CC (callL CC) 14 [.sl [rlV exR]] bx = some (.ret (.tup [.str exS5, .int .i64 0]), bx) := of_chkTE rfl ex5 bx
theorem op_ex6 (bx) : callOp CC (callL CC) 14 [.sl [rlV exR, rlV exR]] bx = some (.ret (.tup [.str [], .int .i64 9]), bx) := of_chkTE rfl ex6 bx
set_option maxHeartbeats 4000000
theorem ok_L30_awake : fnOK CC Tryd.f5 (Tryd.f5.body.getD .skip) = true := by kernel_rfl
theorem fat_L30_awake : CC.P.funcs[5]? = some Tryd.f5 := by kernel_rfl
theorem ok_L30_lit : fnOK CC Tryd.f13 (Tryd.f13.body.getD .skip) = true := by kernel_rfl
theorem fat_L30_lit : CC.P.funcs[13]? = some Tryd.f13 := by kernel_rfl
theorem ok_L30_op : fnOK CC Tryd.f12 (Tryd.f12.body.getD .skip) = true := by kernel_rfl
theorem fat_L30_op : CC.P.funcs[12]? = some Tryd.f12 := by kernel_rfl
theorem ok_R28_Flag : fnOK CC Tryd.f9 (Tryd.f9.body.getD .skip) = true := by kernel_rfl
theorem fat_R28_Flag : CC.P.funcs[9]? = some Tryd.f9 := by kernel_rfl
theorem ok_R28_Lit : fnOK CC Tryd.f21 (Tryd.f21.body.getD .skip) = true := by kernel_rfl
theorem fat_R28_Lit : CC.P.funcs[21]? = some Tryd.f21 := by kernel_rfl
/-- an expression whose kids are nil -/
def lfP (k : Int) (v : Vl) (key : Ky) : PV := .agg [.int .i64 k, .int .i64 0, .int .i64 0, .str [], .int .i64 v.1, .int .i64 v.2.1, .str v.2.2, .int .i64 key.1, .str key.2.1, .str key.2.2, .nils]
theorem buildLf (n : Int) : buildP CC 24 [(0, .int .i64 2), (1, .int .i64 n)] = some (.agg [.int .i64 2, .int .i64 n, .str []]) := by kernel_rfl
theorem buildFl1 : buildP CC 24 [(0, .int .i64 1), (1, .int .i64 1)] = some (.agg [.int .i64 1, .int .i64 1, .str []]) := by kernel_rfl
theorem buildFl0 : buildP CC 24 [(0, .int .i64 1)] = some (.agg [.int .i64 1, .int .i64 0, .str []]) := by kernel_rfl
theorem buildEx (a n : Int) (s : List UInt8) : buildP CC 29 [(0, .int .i64 1), (4, .agg [.int .i64 a, .int .i64 n, .str s])] = some (lfP 1 (a, n, s) (0, [], [])) := by kernel_rfl
theorem EXf : zeroCells CC 29 = some [.int .i64 0, .int .i64 0, .int .i64 0, .str [], .int .i64 0, .int .i64 0, .str [], .int .i64 0, .str [], .str [], .nils] := by kernel_rfl
def lsP (k : Int) (v : Vl) (key : Ky) : PV := .agg [.int .i64 k, .int .i64 0, .int .i64 0, .str [], .int .i64 v.1, .int .i64 v.2.1, .str v.2.2, .int .i64 key.1, .str key.2.1, .str key.2.2, .sl []]
theorem lsP_lt (n : Int) : lsP 1 (2, n, []) (0, [], []) = trV (ltT n) := by unfold ltT trV trVs; rfl
theorem lsP_fl (n : Int) : lsP 1 (1, n, []) (0, [], []) = trV (flT n) := by unfold flT trV trVs; rfl
theorem call_lit (n : Int) : ∃ bx, callL CC 13 [.int .i64 n] [] = some (.ret (lsP 1 (2, n, []) (0, [], [])), bx) := by
  rw [callL_enter (fn := Tryd.f13) (c := Tryd.f13.body.getD .skip) rfl rfl fat_L30_lit rfl ok_L30_lit (Nat.le_of_ble_eq_true rfl)]
  obtain ⟨tu, htu⟩ := VLs
  obtain ⟨tr, htr⟩ := TRs
  obtain ⟨tk, hky⟩ := KYs
  obtain ⟨ev, eo, so, co, ⟨hev, hco⟩, R⟩ := RULES CC; rw [← hev]
  simp only [fpart, part', Tryd.f13, Option.getD]
  simp (maxSteps := 5000000) only [SA, SB, SD, R, guardAt, binP, intP, indexAddrP, elemsOf, readCells, lenP, lenAt, resultsP, resultP, oneOr, reduceCtorEq, reduceIte, Nat.reduceEqDiff, Nat.reduceAdd, Nat.zero_add, Nat.reduceMul, Nat.reduceLT, Nat.reduceLeDiff, Int.reduceLT, Int.reduceNeg, Int.reduceLE, appendP, appendAt, letGo, setLoc, locVal, Int.reduceToNat, boxCells, und, TG, SE, SC, EXf, List.getElem?_cons_zero, List.getElem?_cons_succ, unP, htu, htr, hky, buildLf, buildFl1, buildFl0, buildEx, loadR, loadP, storeR, storeK, storeCellsP, laid, lay, setBox, List.set_cons_zero, List.set_cons_succ, List.length_cons, List.length_nil, Nat.le_refl, Option.map_some, List.take_succ_cons, List.take_zero, List.drop_succ_cons, List.drop_zero, List.drop_nil, List.filter_nil, List.nil_append, List.cons_append, Int.reduceBEq, Int.reduceBNe, Int.reduceGT, Int.reduceGE, Bool.not_true, Bool.not_false, hky]
  unfold lfP lsP
  simp (maxSteps := 5000000) only [SA, SB, SD, R, guardAt, binP, intP, indexAddrP, elemsOf, readCells, lenP, lenAt, resultsP, resultP, oneOr, reduceCtorEq, reduceIte, Nat.reduceEqDiff, Nat.reduceAdd, Nat.zero_add, Nat.reduceMul, Nat.reduceLT, Nat.reduceLeDiff, Int.reduceLT, Int.reduceNeg, Int.reduceLE, appendP, appendAt, letGo, setLoc, locVal, Int.reduceToNat, boxCells, und, TG, SE, SC, EXf, List.getElem?_cons_zero, List.getElem?_cons_succ, unP, htu, htr, hky, buildLf, buildFl1, buildFl0, buildEx, loadR, loadP, storeR, storeK, storeCellsP, laid, lay, setBox, List.set_cons_zero, List.set_cons_succ, List.length_cons, List.length_nil, Nat.le_refl, Option.map_some, List.take_succ_cons, List.take_zero, List.drop_succ_cons, List.drop_zero, List.drop_nil, List.filter_nil, List.nil_append, List.cons_append, Int.reduceBEq, Int.reduceBNe, Int.reduceGT, Int.reduceGE, Bool.not_true, Bool.not_false, hky]
  exact ⟨_, rfl⟩
theorem op_lit (n : Int) (bx) : callOp CC (callL CC) 13 [.int .i64 n] bx = some (.ret (trV (ltT n)), bx) := by
  obtain ⟨b, h⟩ := call_lit n
  rw [← lsP_lt]
  exact callOp_of rfl rfl h rfl
theorem call_Lit (a n : Int) (s : List UInt8) : ∃ bx, callL CC 21 [.agg [.int .i64 a, .int .i64 n, .str s]] [] = some (.ret (lsP 1 (a, n, s) (0, [], [])), bx) := by
  rw [callL_enter (fn := Tryd.f21) (c := Tryd.f21.body.getD .skip) rfl rfl fat_R28_Lit rfl ok_R28_Lit (Nat.le_of_ble_eq_true rfl)]
  obtain ⟨tu, htu⟩ := VLs
  obtain ⟨tr, htr⟩ := TRs
  obtain ⟨tk, hky⟩ := KYs
  obtain ⟨ev, eo, so, co, ⟨hev, hco⟩, R⟩ := RULES CC; rw [← hev]
  simp only [fpart, part', Tryd.f21, Option.getD]
  simp (maxSteps := 5000000) only [SA, SB, SD, R, guardAt, binP, intP, indexAddrP, elemsOf, readCells, lenP, lenAt, resultsP, resultP, oneOr, reduceCtorEq, reduceIte, Nat.reduceEqDiff, Nat.reduceAdd, Nat.zero_add, Nat.reduceMul, Nat.reduceLT, Nat.reduceLeDiff, Int.reduceLT, Int.reduceNeg, Int.reduceLE, appendP, appendAt, letGo, setLoc, locVal, Int.reduceToNat, boxCells, und, TG, SE, SC, EXf, List.getElem?_cons_zero, List.getElem?_cons_succ, unP, htu, htr, hky, buildLf, buildFl1, buildFl0, buildEx, loadR, loadP, storeR, storeK, storeCellsP, laid, lay, setBox, List.set_cons_zero, List.set_cons_succ, List.length_cons, List.length_nil, Nat.le_refl, Option.map_some, List.take_succ_cons, List.take_zero, List.drop_succ_cons, List.drop_zero, List.drop_nil, List.filter_nil, List.nil_append, List.cons_append, Int.reduceBEq, Int.reduceBNe, Int.reduceGT, Int.reduceGE, Bool.not_true, Bool.not_false, hky]
  unfold lfP lsP
  simp (maxSteps := 5000000) only [SA, SB, SD, R, guardAt, binP, intP, indexAddrP, elemsOf, readCells, lenP, lenAt, resultsP, resultP, oneOr, reduceCtorEq, reduceIte, Nat.reduceEqDiff, Nat.reduceAdd, Nat.zero_add, Nat.reduceMul, Nat.reduceLT, Nat.reduceLeDiff, Int.reduceLT, Int.reduceNeg, Int.reduceLE, appendP, appendAt, letGo, setLoc, locVal, Int.reduceToNat, boxCells, und, TG, SE, SC, EXf, List.getElem?_cons_zero, List.getElem?_cons_succ, unP, htu, htr, hky, buildLf, buildFl1, buildFl0, buildEx, loadR, loadP, storeR, storeK, storeCellsP, laid, lay, setBox, List.set_cons_zero, List.set_cons_succ, List.length_cons, List.length_nil, Nat.le_refl, Option.map_some, List.take_succ_cons, List.take_zero, List.drop_succ_cons, List.drop_zero, List.drop_nil, List.filter_nil, List.nil_append, List.cons_append, Int.reduceBEq, Int.reduceBNe, Int.reduceGT, Int.reduceGE, Bool.not_true, Bool.not_false, hky]
  exact ⟨_, rfl⟩
theorem op_Lit (a n : Int) (s : List UInt8) (bx) : callOp CC (callL CC) 21 [.agg [.int .i64 a, .int .i64 n, .str s]] bx = some (.ret (lsP 1 (a, n, s) (0, [], [])), bx) := by
  obtain ⟨b, h⟩ := call_Lit a n s
  exact callOp_of rfl rfl h rfl
theorem call_Flag (b : Bool) : ∃ bx, callL CC 9 [.bool b] [] = some (.ret (lsP 1 (1, if b then 1 else 0, []) (0, [], [])), bx) := by
  have o1 := op_Lit 1 1 []
  have o0 := op_Lit 1 0 []
  rw [callL_enter (fn := Tryd.f9) (c := Tryd.f9.body.getD .skip) rfl rfl fat_R28_Flag rfl ok_R28_Flag (Nat.le_of_ble_eq_true rfl)]
  obtain ⟨tu, htu⟩ := VLs
  obtain ⟨tr, htr⟩ := TRs
  obtain ⟨tk, hky⟩ := KYs
  cases b with
  | true =>
    obtain ⟨ev, eo, so, co, ⟨hev, hco⟩, R⟩ := RULES CC; rw [← hev]
    rw [← hco] at o1 o0
    simp only [fpart, part', Tryd.f9, Option.getD]
    unfold lsP at o1 o0 ⊢
    simp (maxSteps := 5000000) only [SA, SB, SD, R, guardAt, binP, intP, indexAddrP, elemsOf, readCells, lenP, lenAt, resultsP, resultP, oneOr, reduceCtorEq, reduceIte, Nat.reduceEqDiff, Nat.reduceAdd, Nat.zero_add, Nat.reduceMul, Nat.reduceLT, Nat.reduceLeDiff, Int.reduceLT, Int.reduceNeg, Int.reduceLE, appendP, appendAt, letGo, setLoc, locVal, Int.reduceToNat, boxCells, und, TG, SE, SC, EXf, List.getElem?_cons_zero, List.getElem?_cons_succ, unP, htu, htr, hky, buildLf, buildFl1, buildFl0, buildEx, loadR, loadP, storeR, storeK, storeCellsP, laid, lay, setBox, List.set_cons_zero, List.set_cons_succ, List.length_cons, List.length_nil, Nat.le_refl, Option.map_some, List.take_succ_cons, List.take_zero, List.drop_succ_cons, List.drop_zero, List.drop_nil, List.filter_nil, List.nil_append, List.cons_append, Int.reduceBEq, Int.reduceBNe, Int.reduceGT, Int.reduceGE, Bool.not_true, Bool.not_false, o1, o0]
    exact ⟨_, rfl⟩
  | false =>
    obtain ⟨ev, eo, so, co, ⟨hev, hco⟩, R⟩ := RULES CC; rw [← hev]
    rw [← hco] at o1 o0
    simp only [fpart, part', Tryd.f9, Option.getD]
    unfold lsP at o1 o0 ⊢
    simp (maxSteps := 5000000) only [SA, SB, SD, R, guardAt, binP, intP, indexAddrP, elemsOf, readCells, lenP, lenAt, resultsP, resultP, oneOr, reduceCtorEq, reduceIte, Nat.reduceEqDiff, Nat.reduceAdd, Nat.zero_add, Nat.reduceMul, Nat.reduceLT, Nat.reduceLeDiff, Int.reduceLT, Int.reduceNeg, Int.reduceLE, appendP, appendAt, letGo, setLoc, locVal, Int.reduceToNat, boxCells, und, TG, SE, SC, EXf, List.getElem?_cons_zero, List.getElem?_cons_succ, unP, htu, htr, hky, buildLf, buildFl1, buildFl0, buildEx, loadR, loadP, storeR, storeK, storeCellsP, laid, lay, setBox, List.set_cons_zero, List.set_cons_succ, List.length_cons, List.length_nil, Nat.le_refl, Option.map_some, List.take_succ_cons, List.take_zero, List.drop_succ_cons, List.drop_zero, List.drop_nil, List.filter_nil, List.nil_append, List.cons_append, Int.reduceBEq, Int.reduceBNe, Int.reduceGT, Int.reduceGE, Bool.not_true, Bool.not_false, o1, o0]
    exact ⟨_, rfl⟩
theorem op_Flag (c : Bool) (bx) : callOp CC (callL CC) 9 [.bool c] bx = some (.ret (trV (flT (if c then 1 else 0))), bx) := by
  obtain ⟨b, h⟩ := call_Flag c
  rw [← lsP_fl]
  exact callOp_of rfl rfl h rfl
noncomputable def IEx : TypeInfo := (Tryd.prog.info? 29).getD default
theorem bsEx1 (pk pn pm pa pb pd : Int) (ps pt pu pv : List UInt8) (px : List PV) : buildSliceP CC 27 1 [(0, .agg [.int .i64 pk, .int .i64 pn, .int .i64 pm, .str ps, .int .i64 pa, .int .i64 pb, .str pt, .int .i64 pd, .str pu, .str pv, .sl px])] = some (.osl 29 [.agg [.int .i64 pk, .int .i64 pn, .int .i64 pm, .str ps, .int .i64 pa, .int .i64 pb, .str pt, .int .i64 pd, .str pu, .str pv, .sl px]]) := by
  have hz : tZero CC 29 = some (.agg [.int .i64 0, .int .i64 0, .int .i64 0, .str [], .int .i64 0, .int .i64 0, .str [], .int .i64 0, .str [], .str [], .nils]) := by kernel_rfl
  have hi : CC.P.info? 29 = some IEx := by kernel_rfl
  have hs : IEx.size = 11 := by kernel_rfl
  have hu : CC.P.underlying 27 = some (.slice 29) := by kernel_rfl
  have ht : tAgg CC 29 = true := by kernel_rfl
  have hp : sealNew true 11 (.agg [.int .i64 pk, .int .i64 pn, .int .i64 pm, .str ps, .int .i64 pa, .int .i64 pb, .str pt, .int .i64 pd, .str pu, .str pv, .sl px]) = some (.agg [.int .i64 pk, .int .i64 pn, .int .i64 pm, .str ps, .int .i64 pa, .int .i64 pb, .str pt, .int .i64 pd, .str pu, .str pv, .sl px]) := rfl
  unfold buildSliceP
  simp only [hu, hz, hi, hs, ht, List.foldlM_cons, List.foldlM_nil, hp]
  rfl
theorem bsEx2 (pk pn pm pa pb pd qk qn qm qa qb qd : Int) (ps pt pu pv qs qt qu qv : List UInt8) (px qx : List PV) : buildSliceP CC 27 2 [(0, .agg [.int .i64 pk, .int .i64 pn, .int .i64 pm, .str ps, .int .i64 pa, .int .i64 pb, .str pt, .int .i64 pd, .str pu, .str pv, .sl px]), (1, .agg [.int .i64 qk, .int .i64 qn, .int .i64 qm, .str qs, .int .i64 qa, .int .i64 qb, .str qt, .int .i64 qd, .str qu, .str qv, .sl qx])] = some (.osl 29 [.agg [.int .i64 pk, .int .i64 pn, .int .i64 pm, .str ps, .int .i64 pa, .int .i64 pb, .str pt, .int .i64 pd, .str pu, .str pv, .sl px], .agg [.int .i64 qk, .int .i64 qn, .int .i64 qm, .str qs, .int .i64 qa, .int .i64 qb, .str qt, .int .i64 qd, .str qu, .str qv, .sl qx]]) := by
  have hz : tZero CC 29 = some (.agg [.int .i64 0, .int .i64 0, .int .i64 0, .str [], .int .i64 0, .int .i64 0, .str [], .int .i64 0, .str [], .str [], .nils]) := by kernel_rfl
  have hi : CC.P.info? 29 = some IEx := by kernel_rfl
  have hs : IEx.size = 11 := by kernel_rfl
  have hu : CC.P.underlying 27 = some (.slice 29) := by kernel_rfl
  have ht : tAgg CC 29 = true := by kernel_rfl
  have hp : sealNew true 11 (.agg [.int .i64 pk, .int .i64 pn, .int .i64 pm, .str ps, .int .i64 pa, .int .i64 pb, .str pt, .int .i64 pd, .str pu, .str pv, .sl px]) = some (.agg [.int .i64 pk, .int .i64 pn, .int .i64 pm, .str ps, .int .i64 pa, .int .i64 pb, .str pt, .int .i64 pd, .str pu, .str pv, .sl px]) := rfl
  have hq : sealNew true 11 (.agg [.int .i64 qk, .int .i64 qn, .int .i64 qm, .str qs, .int .i64 qa, .int .i64 qb, .str qt, .int .i64 qd, .str qu, .str qv, .sl qx]) = some (.agg [.int .i64 qk, .int .i64 qn, .int .i64 qm, .str qs, .int .i64 qa, .int .i64 qb, .str qt, .int .i64 qd, .str qu, .str qv, .sl qx]) := rfl
  unfold buildSliceP
  simp only [hu, hz, hi, hs, ht, List.foldlM_cons, List.foldlM_nil, hp, hq]
  rfl
theorem buildKids (k : Int) (xs : List PV) : buildP CC 29 [(0, .int .i64 k), (6, .sl xs)] = some (.agg [.int .i64 k, .int .i64 0, .int .i64 0, .str [], .int .i64 0, .int .i64 0, .str [], .int .i64 0, .str [], .str [], .sl xs]) := by kernel_rfl
theorem op_opL (k pk pn pm pa pb pd qk qn qm qa qb qd : Int) (ps pt pu pv qs qt qu qv : List UInt8) (px qx : List PV) (hp : pureL px = true) (hq : pureL qx = true) (bx) : callOp CC (callL CC) 12 [.int .i64 k, .agg [.int .i64 pk, .int .i64 pn, .int .i64 pm, .str ps, .int .i64 pa, .int .i64 pb, .str pt, .int .i64 pd, .str pu, .str pv, .sl px], .agg [.int .i64 qk, .int .i64 qn, .int .i64 qm, .str qs, .int .i64 qa, .int .i64 qb, .str qt, .int .i64 qd, .str qu, .str qv, .sl qx]] bx = some (.ret (.agg [.int .i64 k, .int .i64 0, .int .i64 0, .str [], .int .i64 0, .int .i64 0, .str [], .int .i64 0, .str [], .str [], .sl [.agg [.int .i64 pk, .int .i64 pn, .int .i64 pm, .str ps, .int .i64 pa, .int .i64 pb, .str pt, .int .i64 pd, .str pu, .str pv, .sl px], .agg [.int .i64 qk, .int .i64 qn, .int .i64 qm, .str qs, .int .i64 qa, .int .i64 qb, .str qt, .int .i64 qd, .str qu, .str qv, .sl qx]]]), bx) := by
  have h : ∃ b, callL CC 12 [.int .i64 k, .agg [.int .i64 pk, .int .i64 pn, .int .i64 pm, .str ps, .int .i64 pa, .int .i64 pb, .str pt, .int .i64 pd, .str pu, .str pv, .sl px], .agg [.int .i64 qk, .int .i64 qn, .int .i64 qm, .str qs, .int .i64 qa, .int .i64 qb, .str qt, .int .i64 qd, .str qu, .str qv, .sl qx]] [] = some (.ret (.agg [.int .i64 k, .int .i64 0, .int .i64 0, .str [], .int .i64 0, .int .i64 0, .str [], .int .i64 0, .str [], .str [], .sl [.agg [.int .i64 pk, .int .i64 pn, .int .i64 pm, .str ps, .int .i64 pa, .int .i64 pb, .str pt, .int .i64 pd, .str pu, .str pv, .sl px], .agg [.int .i64 qk, .int .i64 qn, .int .i64 qm, .str qs, .int .i64 qa, .int .i64 qb, .str qt, .int .i64 qd, .str qu, .str qv, .sl qx]]]), b) := by
    rw [callL_enter (fn := Tryd.f12) (c := Tryd.f12.body.getD .skip) rfl rfl fat_L30_op rfl ok_L30_op (Nat.le_of_ble_eq_true rfl)]
    obtain ⟨tu, htu⟩ := VLs
    obtain ⟨tr, htr⟩ := TRs
    obtain ⟨tk, hky⟩ := KYs
    obtain ⟨ev, eo, so, co, ⟨hev, hco⟩, R⟩ := RULES CC; rw [← hev]
    simp only [fpart, part', Tryd.f12, Option.getD]
    simp (maxSteps := 5000000) only [SA, SB, SD, R, guardAt, binP, intP, indexAddrP, elemsOf, readCells, lenP, lenAt, resultsP, resultP, oneOr, reduceCtorEq, reduceIte, Nat.reduceEqDiff, Nat.reduceAdd, Nat.zero_add, Nat.reduceMul, Nat.reduceLT, Nat.reduceLeDiff, Int.reduceLT, Int.reduceNeg, Int.reduceLE, appendP, appendAt, letGo, setLoc, locVal, Int.reduceToNat, boxCells, und, TG, SE, SC, EXf, List.getElem?_cons_zero, List.getElem?_cons_succ, unP, htu, htr, hky, buildLf, buildFl1, buildFl0, buildEx, loadR, loadP, storeR, storeK, storeCellsP, laid, lay, setBox, List.set_cons_zero, List.set_cons_succ, List.length_cons, List.length_nil, Nat.le_refl, Option.map_some, List.take_succ_cons, List.take_zero, List.drop_succ_cons, List.drop_zero, List.drop_nil, List.filter_nil, List.nil_append, List.cons_append, Int.reduceBEq, Int.reduceBNe, Int.reduceGT, Int.reduceGE, Bool.not_true, Bool.not_false, bsEx2, buildKids]
    exact ⟨_, rfl⟩
  obtain ⟨b, h⟩ := h
  exact callOp_of rfl (by simp only [pureL, PV.pure, hp, hq, Bool.and_self]) h (by simp only [pureL, PV.pure, hp, hq, Bool.and_self])
theorem buildKy3 : buildP CC 26 [(0, .int .i64 3), (1, .str [108, 101, 118, 101, 108]), (2, .str [108, 101, 118, 101, 108])] = some (.agg [.int .i64 3, .str [108, 101, 118, 101, 108], .str [108, 101, 118, 101, 108]]) := by kernel_rfl
theorem buildAt : buildP CC 29 [(0, .int .i64 2), (5, .agg [.int .i64 3, .str [108, 101, 118, 101, 108], .str [108, 101, 118, 101, 108]])] = some (.agg [.int .i64 2, .int .i64 0, .int .i64 0, .str [], .int .i64 0, .int .i64 0, .str [], .int .i64 3, .str [108, 101, 118, 101, 108], .str [108, 101, 118, 101, 108], .nils]) := by kernel_rfl
theorem bldT : buildP CC 45 [(0, .int .i64 5)] = some (.agg [.int .i64 5, .int .i64 0, .str [], .str [], .int .i64 0, .str [], .str [], .str [], .int .i64 0, .int .i64 0]) := by kernel_rfl
theorem bldTs : buildSliceP CC 22 1 [(0, .agg [.int .i64 5, .int .i64 0, .str [], .str [], .int .i64 0, .str [], .str [], .str [], .int .i64 0, .int .i64 0])] = some (.osl 45 [.agg [.int .i64 5, .int .i64 0, .str [], .str [], .int .i64 0, .str [], .str [], .str [], .int .i64 0, .int .i64 0]]) := by kernel_rfl
theorem bldS : buildP CC 47 [(0, .int .i64 4), (2, .str [97, 119, 97, 121])] = some (.agg [.int .i64 4, .int .i64 0, .str [], .str [], .str [97, 119, 97, 121], .int .i64 0, .int .i64 0, .int .i64 0, .str [], .int .i64 0, .int .i64 0, .str [], .int .i64 0, .str [], .str [], .nils]) := by kernel_rfl
theorem bldSs : buildSliceP CC 30 1 [(0, .agg [.int .i64 4, .int .i64 0, .str [], .str [], .str [97, 119, 97, 121], .int .i64 0, .int .i64 0, .int .i64 0, .str [], .int .i64 0, .int .i64 0, .str [], .int .i64 0, .str [], .str [], .nils])] = some (.osl 47 [.agg [.int .i64 4, .int .i64 0, .str [], .str [], .str [97, 119, 97, 121], .int .i64 0, .int .i64 0, .int .i64 0, .str [], .int .i64 0, .int .i64 0, .str [], .int .i64 0, .str [], .str [], .sl []]]) := by kernel_rfl
theorem bldR : buildP CC 32 [(0, .str [97]), (2, .sl [.agg [.int .i64 5, .int .i64 0, .str [], .str [], .int .i64 0, .str [], .str [], .str [], .int .i64 0, .int .i64 0]]), (3, .agg [.int .i64 1, .int .i64 0, .int .i64 0, .str [], .int .i64 1, .int .i64 1, .str [], .int .i64 0, .str [], .str [], .sl []]), (4, .sl [.agg [.int .i64 4, .int .i64 0, .str [], .str [], .str [97, 119, 97, 121], .int .i64 0, .int .i64 0, .int .i64 0, .str [], .int .i64 0, .int .i64 0, .str [], .int .i64 0, .str [], .str [], .sl []]])] = some (.agg [.str [97], .int .i64 0, .sl [.agg [.int .i64 5, .int .i64 0, .str [], .str [], .int .i64 0, .str [], .str [], .str [], .int .i64 0, .int .i64 0]], .int .i64 1, .int .i64 0, .int .i64 0, .str [], .int .i64 1, .int .i64 1, .str [], .int .i64 0, .str [], .str [], .sl [], .sl [.agg [.int .i64 4, .int .i64 0, .str [], .str [], .str [97, 119, 97, 121], .int .i64 0, .int .i64 0, .int .i64 0, .str [], .int .i64 0, .int .i64 0, .str [], .int .i64 0, .str [], .str [], .sl []]]]) := by kernel_rfl
theorem bldRs1 : buildSliceP CC 52 1 [(0, .agg [.str [97], .int .i64 0, .sl [.agg [.int .i64 5, .int .i64 0, .str [], .str [], .int .i64 0, .str [], .str [], .str [], .int .i64 0, .int .i64 0]], .int .i64 1, .int .i64 0, .int .i64 0, .str [], .int .i64 1, .int .i64 1, .str [], .int .i64 0, .str [], .str [], .sl [], .sl [.agg [.int .i64 4, .int .i64 0, .str [], .str [], .str [97, 119, 97, 121], .int .i64 0, .int .i64 0, .int .i64 0, .str [], .int .i64 0, .int .i64 0, .str [], .int .i64 0, .str [], .str [], .sl []]]])] = some (.osl 32 [.agg [.str [97], .int .i64 0, .sl [.agg [.int .i64 5, .int .i64 0, .str [], .str [], .int .i64 0, .str [], .str [], .str [], .int .i64 0, .int .i64 0]], .int .i64 1, .int .i64 0, .int .i64 0, .str [], .int .i64 1, .int .i64 1, .str [], .int .i64 0, .str [], .str [], .sl [], .sl [.agg [.int .i64 4, .int .i64 0, .str [], .str [], .str [97, 119, 97, 121], .int .i64 0, .int .i64 0, .int .i64 0, .str [], .int .i64 0, .int .i64 0, .str [], .int .i64 0, .str [], .str [], .sl []]]]]) := by kernel_rfl
theorem bldRs2 : buildSliceP CC 52 2 [(0, .agg [.str [97], .int .i64 0, .sl [.agg [.int .i64 5, .int .i64 0, .str [], .str [], .int .i64 0, .str [], .str [], .str [], .int .i64 0, .int .i64 0]], .int .i64 1, .int .i64 0, .int .i64 0, .str [], .int .i64 1, .int .i64 1, .str [], .int .i64 0, .str [], .str [], .sl [], .sl [.agg [.int .i64 4, .int .i64 0, .str [], .str [], .str [97, 119, 97, 121], .int .i64 0, .int .i64 0, .int .i64 0, .str [], .int .i64 0, .int .i64 0, .str [], .int .i64 0, .str [], .str [], .sl []]]]), (1, .agg [.str [97], .int .i64 0, .sl [.agg [.int .i64 5, .int .i64 0, .str [], .str [], .int .i64 0, .str [], .str [], .str [], .int .i64 0, .int .i64 0]], .int .i64 1, .int .i64 0, .int .i64 0, .str [], .int .i64 1, .int .i64 1, .str [], .int .i64 0, .str [], .str [], .sl [], .sl [.agg [.int .i64 4, .int .i64 0, .str [], .str [], .str [97, 119, 97, 121], .int .i64 0, .int .i64 0, .int .i64 0, .str [], .int .i64 0, .int .i64 0, .str [], .int .i64 0, .str [], .str [], .sl []]]])] = some (.osl 32 [.agg [.str [97], .int .i64 0, .sl [.agg [.int .i64 5, .int .i64 0, .str [], .str [], .int .i64 0, .str [], .str [], .str [], .int .i64 0, .int .i64 0]], .int .i64 1, .int .i64 0, .int .i64 0, .str [], .int .i64 1, .int .i64 1, .str [], .int .i64 0, .str [], .str [], .sl [], .sl [.agg [.int .i64 4, .int .i64 0, .str [], .str [], .str [97, 119, 97, 121], .int .i64 0, .int .i64 0, .int .i64 0, .str [], .int .i64 0, .int .i64 0, .str [], .int .i64 0, .str [], .str [], .sl []]]], .agg [.str [97], .int .i64 0, .sl [.agg [.int .i64 5, .int .i64 0, .str [], .str [], .int .i64 0, .str [], .str [], .str [], .int .i64 0, .int .i64 0]], .int .i64 1, .int .i64 0, .int .i64 0, .str [], .int .i64 1, .int .i64 1, .str [], .int .i64 0, .str [], .str [], .sl [], .sl [.agg [.int .i64 4, .int .i64 0, .str [], .str [], .str [97, 119, 97, 121], .int .i64 0, .int .i64 0, .int .i64 0, .str [], .int .i64 0, .int .i64 0, .str [], .int .i64 0, .str [], .str [], .sl []]]]]) := by kernel_rfl
theorem exR_eq : rlV exR = .agg [.str [97], .int .i64 0, .sl [.agg [.int .i64 5, .int .i64 0, .str [], .str [], .int .i64 0, .str [], .str [], .str [], .int .i64 0, .int .i64 0]], .int .i64 1, .int .i64 0, .int .i64 0, .str [], .int .i64 1, .int .i64 1, .str [], .int .i64 0, .str [], .str [], .sl [], .sl [.agg [.int .i64 4, .int .i64 0, .str [], .str [], .str [97, 119, 97, 121], .int .i64 0, .int .i64 0, .int .i64 0, .str [], .int .i64 0, .int .i64 0, .str [], .int .i64 0, .str [], .str [], .sl []]]] := rfl
theorem RLz : zeroCells CC 32 = some [.str [], .int .i64 0, .nils, .int .i64 0, .int .i64 0, .int .i64 0, .str [], .int .i64 0, .int .i64 0, .str [], .int .i64 0, .str [], .str [], .nils, .nils] := by kernel_rfl
theorem strP_ne (s : List UInt8) : strP .neq s s = some (.bool false) := by simp [strP]
theorem strP_eq (s : List UInt8) : strP .eql s s = some (.bool true) := by simp [strP]
theorem call_awake : ∃ bx, callL CC 5 [] [] = some (.ret (.bool true), bx) := by
  have f1 := op_Flag true
  have f0 := op_Flag false
  have l0 := op_lit 0
  have l1 := op_lit 1
  have l2 := op_lit 2
  have l5 := op_lit 5
  have lm := op_lit (-5)
  have x1 := op_ex1
  have x2 := op_ex2
  have x3 := op_ex3
  have x4 := op_ex4
  have x5 := op_ex5
  have x6 := op_ex6
  have op := op_opL
  simp only [if_true, Bool.false_eq_true, if_false] at f1 f0
  simp only [trV, trVs, opT, ltT, atT, flT] at f1 f0 l0 l1 l2 l5 lm x1 x2 x3 x4
  unfold exS1 at x1
  unfold exS2 at x2
  unfold exS3 at x3
  unfold exS4 at x4
  unfold exS5 at x5
  rw [exR_eq] at x5 x6
  rw [callL_enter (fn := Tryd.f5) (c := Tryd.f5.body.getD .skip) rfl rfl fat_L30_awake rfl ok_L30_awake (Nat.le_of_ble_eq_true rfl)]
  obtain ⟨tu, htu⟩ := VLs
  obtain ⟨tr, htr⟩ := TRs
  obtain ⟨tk, hky⟩ := KYs
  obtain ⟨te, hev1⟩ := EVs
  obtain ⟨tg, htg⟩ := TG_s
  obtain ⟨tp, hsp⟩ := SPs
  obtain ⟨tl, hrl⟩ := RLs
  obtain ⟨ev, eo, so, co, ⟨hev, hco⟩, R⟩ := RULES CC; rw [← hev]
  rw [← hco] at f1 f0 l0 l1 l2 l5 lm x1 x2 x3 x4 x5 x6 op
  simp only [fpart, part', Tryd.f5, Option.getD]
  have t1 := op 10 2 0 0 0 0 3 1 0 0 2 5 0 [] [] [108, 101, 118, 101, 108] [108, 101, 118, 101, 108] [] [] [] [] [] [] rfl rfl
  have t2 := op 11 1 0 0 2 1 0 1 0 0 2 2 0 [] [] [] [] [] [] [] [] [] [] rfl rfl
  have t3 := op 12 1 0 0 2 0 0 2 0 0 0 0 3 [] [] [] [] [] [] [108, 101, 118, 101, 108] [108, 101, 118, 101, 108] [] [] rfl rfl
  have t4 := op 13 11 0 0 0 0 0 12 0 0 0 0 0 [] [] [] [] [] [] [] [] [.agg [.int .i64 1, .int .i64 0, .int .i64 0, .str [], .int .i64 2, .int .i64 1, .str [], .int .i64 0, .str [], .str [], .sl []], .agg [.int .i64 1, .int .i64 0, .int .i64 0, .str [], .int .i64 2, .int .i64 2, .str [], .int .i64 0, .str [], .str [], .sl []]] [.agg [.int .i64 1, .int .i64 0, .int .i64 0, .str [], .int .i64 2, .int .i64 0, .str [], .int .i64 0, .str [], .str [], .sl []], .agg [.int .i64 2, .int .i64 0, .int .i64 0, .str [], .int .i64 0, .int .i64 0, .str [], .int .i64 3, .str [108, 101, 118, 101, 108], .str [108, 101, 118, 101, 108], .sl []]] rfl rfl
  have t5 := op 8 1 0 0 1 1 0 1 0 0 1 0 0 [] [] [] [] [] [] [] [] [] [] rfl rfl
  have t6 := op 7 8 0 0 0 0 0 1 0 0 1 1 0 [] [] [] [] [] [] [] [] [.agg [.int .i64 1, .int .i64 0, .int .i64 0, .str [], .int .i64 1, .int .i64 1, .str [], .int .i64 0, .str [], .str [], .sl []], .agg [.int .i64 1, .int .i64 0, .int .i64 0, .str [], .int .i64 1, .int .i64 0, .str [], .int .i64 0, .str [], .str [], .sl []]] [] rfl rfl
  have t7 := op 12 1 0 0 2 0 0 1 0 0 2 (-5) 0 [] [] [] [] [] [] [] [] [] [] rfl rfl
  simp (maxSteps := 5000000) only [SA, SB, SD, R, guardAt, binP, intP, indexAddrP, elemsOf, readCells, lenP, lenAt, resultsP, resultP, oneOr, reduceCtorEq, reduceIte, Nat.reduceEqDiff, Nat.reduceAdd, Nat.zero_add, Nat.reduceMul, Nat.reduceLT, Nat.reduceLeDiff, Int.reduceLT, Int.reduceNeg, Int.reduceLE, appendP, appendAt, letGo, setLoc, locVal, Int.reduceToNat, boxCells, und, TG, SE, SC, EXf, List.getElem?_cons_zero, List.getElem?_cons_succ, unP, htu, htr, hky, buildLf, buildFl1, buildFl0, buildEx, loadR, loadP, storeR, storeK, storeCellsP, laid, lay, setBox, List.set_cons_zero, List.set_cons_succ, List.length_cons, List.length_nil, Nat.le_refl, Option.map_some, List.take_succ_cons, List.take_zero, List.drop_succ_cons, List.drop_zero, List.drop_nil, List.filter_nil, List.nil_append, List.cons_append, Int.reduceBEq, Int.reduceBNe, Int.reduceGT, Int.reduceGE, Bool.not_true, Bool.not_false, t1, t2, t3, t4, t5, t6, t7, bsEx1, buildKids, buildKy3, buildAt, f1, f0, l0, l1, l2, l5, lm, x1, x2, x3, x4, x5, x6, strP_ne, strP_eq, bldT, bldTs, bldS, bldSs, bldR, bldRs1, bldRs2, RLz, hrl, htg, hsp, hev1]
  exact ⟨_, rfl⟩
theorem op_awake (bx) : callOp CC (callL CC) 5 [] bx = some (.ret (.bool true), bx) := by
  obtain ⟨b, h⟩ := call_awake
  exact callOp_of rfl rfl h rfl
end Go.HH
