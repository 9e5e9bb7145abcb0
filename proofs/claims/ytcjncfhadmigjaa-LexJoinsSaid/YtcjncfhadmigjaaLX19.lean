/-
  Tokens: joined texts, the walk.
-/
import Derived.Test.YtcjncfhadmigjaaLX18
namespace Go.HH
open Go Go.Proofs
set_option maxRecDepth 100000
set_option linter.unusedSimpArgs false
set_option linter.unusedVariables false
theorem ok_L27_LexJoins : fnOK CC Try.f6 (Try.f6.body.getD .skip) = true := by kernel_rfl
theorem fat_L27_LexJoins : CC.P.funcs[6]? = some Try.f6 := by kernel_rfl
theorem tSize3 : tSize CC 3 = some 1 := by kernel_rfl
theorem loop_LexJoins (L : Code) (hL : L = fpart Try.f6 [1,1,1,1,1,1,1,1,1,0,1,0]) (s : List UInt8) (hs : s.length ≤ 1000) (r k : List Tk) (hr : r.length ≤ 5000) (hk : k.length ≤ 5000) (hk2 : ∀ x ∈ k, x.2.2 ≤ 1000000) : ∀ (m i : Nat) (e : List PV) (bx : List PBox), i + m = k.length → getT e 0 = .str s → getT e 110 = .sl (tkVs k) → getT e 111 = .int .i64 k.length → getT e 112 = .int .i64 i → getT e 16 = .osl 32 (tkVs (r ++ (k.take i).map (shT (s.length + 1)))) → ∀ (p11 p13 p14 p15 : PV), getT e 13 = p13 → getT e 14 = p14 → getT e 15 = p15 →
    ∃ e' bx', evL CC L ⟨e, bx⟩ = some (.exit 0, ⟨e', bx'⟩) ∧ getT e' 16 = .osl 32 (tkVs (r ++ k.map (shT (s.length + 1)))) ∧ getT e' 13 = p13 ∧ getT e' 14 = p14 ∧ getT e' 15 = p15 := by
  intro m
  induction m with
  | zero =>
    intro i e bx hm h0 h110 h111 h112 h16 p11 p13 p14 p15 h13 h14 h15
    rw [evL_at (fpart Try.f6 [1,1,1,1,1,1,1,1,1,0,1,0,0]) hL]
    have hi : ¬ ((i : Int) < (k.length : Int)) := by omega
    rw [List.take_of_length_le (by omega)] at h16
    obtain ⟨ev, eo, so, co, ⟨hev, hco⟩, R⟩ := RULES CC; rw [← hev]
    simp only [fpart, part', Try.f6, Option.getD]
    simp (maxSteps := 5000000) only [SA, SB, SD, R, guardAt, binP, intP, indexAddrP, elemsOf, readCells, lenP, lenAt, resultsP, resultP, oneOr, reduceCtorEq, reduceIte, Nat.reduceEqDiff, Nat.reduceAdd, Nat.zero_add, Nat.reduceMul, Nat.reduceLT, Nat.reduceLeDiff, Int.reduceLT, Int.reduceNeg, Int.reduceLE, appendP, appendAt, letGo, setLoc, locVal, Int.reduceToNat, boxCells, und, TG, SE, h0, h110, h111, h112, hi]
    exact ⟨_, _, rfl, by simp (maxSteps := 5000000) only [SA, SB, SD, R, guardAt, binP, intP, indexAddrP, elemsOf, readCells, lenP, lenAt, resultsP, resultP, oneOr, reduceCtorEq, reduceIte, Nat.reduceEqDiff, Nat.reduceAdd, Nat.zero_add, Nat.reduceMul, Nat.reduceLT, Nat.reduceLeDiff, Int.reduceLT, Int.reduceNeg, Int.reduceLE, appendP, appendAt, letGo, setLoc, locVal, Int.reduceToNat, boxCells, und, h16], by simp (maxSteps := 5000000) only [SA, SB, SD, R, guardAt, binP, intP, indexAddrP, elemsOf, readCells, lenP, lenAt, resultsP, resultP, oneOr, reduceCtorEq, reduceIte, Nat.reduceEqDiff, Nat.reduceAdd, Nat.zero_add, Nat.reduceMul, Nat.reduceLT, Nat.reduceLeDiff, Int.reduceLT, Int.reduceNeg, Int.reduceLE, appendP, appendAt, letGo, setLoc, locVal, Int.reduceToNat, boxCells, und, h13], by simp (maxSteps := 5000000) only [SA, SB, SD, R, guardAt, binP, intP, indexAddrP, elemsOf, readCells, lenP, lenAt, resultsP, resultP, oneOr, reduceCtorEq, reduceIte, Nat.reduceEqDiff, Nat.reduceAdd, Nat.zero_add, Nat.reduceMul, Nat.reduceLT, Nat.reduceLeDiff, Int.reduceLT, Int.reduceNeg, Int.reduceLE, appendP, appendAt, letGo, setLoc, locVal, Int.reduceToNat, boxCells, und, h14], by simp (maxSteps := 5000000) only [SA, SB, SD, R, guardAt, binP, intP, indexAddrP, elemsOf, readCells, lenP, lenAt, resultsP, resultP, oneOr, reduceCtorEq, reduceIte, Nat.reduceEqDiff, Nat.reduceAdd, Nat.zero_add, Nat.reduceMul, Nat.reduceLT, Nat.reduceLeDiff, Int.reduceLT, Int.reduceNeg, Int.reduceLE, appendP, appendAt, letGo, setLoc, locVal, Int.reduceToNat, boxCells, und, h15]⟩
  | succ m ih =>
    intro i e bx hm h0 h110 h111 h112 h16 p11 p13 p14 p15 h13 h14 h15
    rw [evL_at (fpart Try.f6 [1,1,1,1,1,1,1,1,1,0,1,0,0]) hL]
    have hi : ((i : Int) < (k.length : Int)) := by omega
    have hi0 : ¬ ((i : Int) < 0) := by omega
    have hx : k[i]? = some k[i] := by simp
    have hb2 := hk2 k[i] (List.getElem_mem (by omega))
    have htk : k.take (i + 1) = k.take i ++ [k[i]] := List.take_succ_eq_append_getElem (by omega)
    have hih := fun e bx => ih (i + 1) e bx (by omega)
    rw [htk] at hih
    generalize k[i] = u at *
    have hsh : tkVs (r ++ (k.take i ++ [u]).map (shT (s.length + 1))) = tkVs (r ++ (k.take i).map (shT (s.length + 1))) ++ tkVs [shT (s.length + 1) u] := by
      simp only [tkVs, List.map_append, List.append_assoc, List.map_cons, List.map_nil]
    rw [hsh] at hih
    have hl0 : (tkVs (r ++ (k.take i).map (shT (s.length + 1)))).length ≤ 10000 := by
      unfold tkVs
      rw [List.length_map, List.length_append, List.length_map, List.length_take]; omega
    have hl1 : (tkVs [shT (s.length + 1) u]).length = 1 := rfl
    have hc : (tkVs (r ++ (k.take i).map (shT (s.length + 1)))).length + (tkVs [shT (s.length + 1) u]).length ≤ 1000000 := by omega
    have hok := okTk (shT (s.length + 1) u)
    have hbs := bsTk' (shT (s.length + 1) u)
    obtain ⟨kd, tx, a⟩ := u
    simp only at hb2
    have hx' : (tkVs k)[i]? = some (.agg [.int .i64 (kd : Int), .str tx, .int .i64 (a : Int)]) := by
      unfold tkVs
      rw [List.getElem?_map, hx]
      rfl
    have hw2 := wrap_i64 (n := (i : Int) + 1) ⟨by omega, by omega⟩
    have hw3 := wrap_i64 (n := (s.length : Int) + 1) ⟨by omega, by omega⟩
    have hw4 := wrap_i64 (n := (a : Int) + ((s.length : Int) + 1)) ⟨by omega, by omega⟩
    have cast1 : ((i + 1 : Nat) : Int) = (i : Int) + 1 := by omega
    have cast2 : ((s.length + 1 + a : Nat) : Int) = (a : Int) + ((s.length : Int) + 1) := by omega
    generalize tkVs [shT (s.length + 1) (kd, tx, a)] = us at *
    unfold tkV shT at hbs
    simp only [cast2] at hbs
    rw [cast1] at hih
    obtain ⟨tu, htu⟩ := TKs
    have hlen := len_str s
    have hst : ∀ (id : Nat) (n : Int) (i : Nat) (d : Option Tmp) (st : St), storeR CC 3 (.bp id 2) (.int .i64 n) i d [] st = storeE (storeCellsP st.bx id 2 [.int .i64 n]) d st.env := fun id n i d st => storeR_one CC _ id 2 _ i d st tSize3 rfl rfl
    have hgl : ∀ (bx : List PBox) (b : PBox), (bx ++ [b])[bx.length]? = some b := fun bx b => by simp
    generalize tkVs k = xs at *
    generalize tkVs (r ++ (k.take i).map (shT (s.length + 1))) = ws at *
    obtain ⟨ev, eo, so, co, ⟨hev, hco⟩, R⟩ := RULES CC; rw [← hev]
    rw [← hev] at hih
    simp only [fpart, part', Try.f6, Option.getD]
    simp (maxSteps := 5000000) only [SA, SB, SD, R, guardAt, binP, intP, indexAddrP, elemsOf, readCells, lenP, lenAt, resultsP, resultP, oneOr, reduceCtorEq, reduceIte, Nat.reduceEqDiff, Nat.reduceAdd, Nat.zero_add, Nat.reduceMul, Nat.reduceLT, Nat.reduceLeDiff, Int.reduceLT, Int.reduceNeg, Int.reduceLE, appendP, appendAt, letGo, setLoc, locVal, Int.reduceToNat, boxCells, und, TG, SE, SC, TKf, htu, fA, h0, h110, h111, h112, h16, hi, hi0, hx', hw2, hw3, hw4, hgl, hlen, hst, hbs, apTk, hok, hc, loadR, loadP, lay, List.take_succ_cons, List.take_zero, List.drop_nil, List.filter_nil, List.cons_append]
    refine hih _ _ ?_ ?_ ?_ ?_ ?_ p11 p13 p14 p15 ?_ ?_ ?_
    · simp (maxSteps := 5000000) only [SA, SB, SD, R, guardAt, binP, intP, indexAddrP, elemsOf, readCells, lenP, lenAt, resultsP, resultP, oneOr, reduceCtorEq, reduceIte, Nat.reduceEqDiff, Nat.reduceAdd, Nat.zero_add, Nat.reduceMul, Nat.reduceLT, Nat.reduceLeDiff, Int.reduceLT, Int.reduceNeg, Int.reduceLE, appendP, appendAt, letGo, setLoc, locVal, Int.reduceToNat, boxCells, und, h0]
    · simp (maxSteps := 5000000) only [SA, SB, SD, R, guardAt, binP, intP, indexAddrP, elemsOf, readCells, lenP, lenAt, resultsP, resultP, oneOr, reduceCtorEq, reduceIte, Nat.reduceEqDiff, Nat.reduceAdd, Nat.zero_add, Nat.reduceMul, Nat.reduceLT, Nat.reduceLeDiff, Int.reduceLT, Int.reduceNeg, Int.reduceLE, appendP, appendAt, letGo, setLoc, locVal, Int.reduceToNat, boxCells, und, h110]
    · simp (maxSteps := 5000000) only [SA, SB, SD, R, guardAt, binP, intP, indexAddrP, elemsOf, readCells, lenP, lenAt, resultsP, resultP, oneOr, reduceCtorEq, reduceIte, Nat.reduceEqDiff, Nat.reduceAdd, Nat.zero_add, Nat.reduceMul, Nat.reduceLT, Nat.reduceLeDiff, Int.reduceLT, Int.reduceNeg, Int.reduceLE, appendP, appendAt, letGo, setLoc, locVal, Int.reduceToNat, boxCells, und, h111]
    · simp (maxSteps := 5000000) only [SA, SB, SD, R, guardAt, binP, intP, indexAddrP, elemsOf, readCells, lenP, lenAt, resultsP, resultP, oneOr, reduceCtorEq, reduceIte, Nat.reduceEqDiff, Nat.reduceAdd, Nat.zero_add, Nat.reduceMul, Nat.reduceLT, Nat.reduceLeDiff, Int.reduceLT, Int.reduceNeg, Int.reduceLE, appendP, appendAt, letGo, setLoc, locVal, Int.reduceToNat, boxCells, und]
    · simp (maxSteps := 5000000) only [SA, SB, SD, R, guardAt, binP, intP, indexAddrP, elemsOf, readCells, lenP, lenAt, resultsP, resultP, oneOr, reduceCtorEq, reduceIte, Nat.reduceEqDiff, Nat.reduceAdd, Nat.zero_add, Nat.reduceMul, Nat.reduceLT, Nat.reduceLeDiff, Int.reduceLT, Int.reduceNeg, Int.reduceLE, appendP, appendAt, letGo, setLoc, locVal, Int.reduceToNat, boxCells, und]
    · simp (maxSteps := 5000000) only [SA, SB, SD, R, guardAt, binP, intP, indexAddrP, elemsOf, readCells, lenP, lenAt, resultsP, resultP, oneOr, reduceCtorEq, reduceIte, Nat.reduceEqDiff, Nat.reduceAdd, Nat.zero_add, Nat.reduceMul, Nat.reduceLT, Nat.reduceLeDiff, Int.reduceLT, Int.reduceNeg, Int.reduceLE, appendP, appendAt, letGo, setLoc, locVal, Int.reduceToNat, boxCells, und, h13]
    · simp (maxSteps := 5000000) only [SA, SB, SD, R, guardAt, binP, intP, indexAddrP, elemsOf, readCells, lenP, lenAt, resultsP, resultP, oneOr, reduceCtorEq, reduceIte, Nat.reduceEqDiff, Nat.reduceAdd, Nat.zero_add, Nat.reduceMul, Nat.reduceLT, Nat.reduceLeDiff, Int.reduceLT, Int.reduceNeg, Int.reduceLE, appendP, appendAt, letGo, setLoc, locVal, Int.reduceToNat, boxCells, und, h14]
    · simp (maxSteps := 5000000) only [SA, SB, SD, R, guardAt, binP, intP, indexAddrP, elemsOf, readCells, lenP, lenAt, resultsP, resultP, oneOr, reduceCtorEq, reduceIte, Nat.reduceEqDiff, Nat.reduceAdd, Nat.zero_add, Nat.reduceMul, Nat.reduceLT, Nat.reduceLeDiff, Int.reduceLT, Int.reduceNeg, Int.reduceLE, appendP, appendAt, letGo, setLoc, locVal, Int.reduceToNat, boxCells, und, h15]
end Go.HH
