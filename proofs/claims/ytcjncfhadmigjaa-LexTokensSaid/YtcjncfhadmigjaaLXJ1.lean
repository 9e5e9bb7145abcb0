/-
  Joined: LX27, LX28.
-/
import Derived.Test.YtcjncfhadmigjaaLX26
namespace Go.HH
open Go Go.Proofs
set_option maxRecDepth 100000
set_option linter.unusedSimpArgs false
set_option linter.unusedVariables false
theorem ok_R04_quoted : fnOK CC Try.f43 (Try.f43.body.getD .skip) = true := by kernel_rfl
theorem fat_R04_quoted : CC.P.funcs[43]? = some Try.f43 := by kernel_rfl
theorem op_hex_n (n : Nat) (h : n < 256) (bx) : callOp CC (callL CC) 48 [.int .u8 (n : Int)] bx = some (.ret (.int .i64 (hexN n)), bx) := by
  have hn : (UInt8.ofNat n).toNat = n := by rw [UInt8.toNat_ofNat', Nat.mod_eq_of_lt (by omega)]
  have := op_R04_hex (UInt8.ofNat n) bx
  unfold hexV at this
  rwa [hn] at this
theorem hexN_lt (n : Nat) : -1 ≤ hexN n ∧ hexN n < 16 := by unfold hexN; split <;> (try split) <;> omega
/-- what the loose loop comes to -/
def PLo (s : List UInt8) (o : Option (List UInt8 × Nat)) (r : Option (Ex × St)) : Prop := match o with
  | some (b, i) => ∃ e', r = some (.exit 0, ⟨e', []⟩) ∧ getT e' 0 = .str s ∧ getT e' 1 = .int .i64 0 ∧ getT e' 6 = .osl 5 (bys b) ∧ getT e' 7 = .int .i64 (i : Int) ∧ b.length ≤ i ∧ i ≤ s.length
  | none => ∃ e', r = some (.ret, ⟨e', []⟩) ∧ getT e' 4 = .str [] ∧ getT e' 5 = .int .i64 (-1)
theorem step_esc (s : List UInt8) (hs : s.length ≤ 40000) (m : Nat) (L : Code) (hL : L = fpart Try.f43 [1,1,1,1,0,0]) (ih : ∀ (i : Nat) (b : List UInt8) (e : List PV), s.length - i < m → i ≤ s.length → b.length ≤ i → getT e 0 = .str s → getT e 1 = .int .i64 0 → getT e 6 = .osl 5 (bys b) → getT e 7 = .int .i64 i → PLo s (looseL m s i b) (evL CC L ⟨e, []⟩)) (i : Nat) (b : List UInt8) (e : List PV) (hm : s.length - i < m + 1) (hi : i ≤ s.length) (hb : b.length ≤ i) (h0 : getT e 0 = .str s) (h1 : getT e 1 = .int .i64 0) (h6 : getT e 6 = .osl 5 (bys b)) (h7 : getT e 7 = .int .i64 i) (hlt : i < s.length) (c1 : atL s i ≠ 34) (c2 : atL s i = 92) (d1 : i + 1 < s.length) (c3 : atL s (i + 1) = 34 ∨ atL s (i + 1) = 92) : PLo s (looseL (m + 1) s i b) (evL CC L ⟨e, []⟩) := by
  rw [evL_at (fpart Try.f43 [1,1,1,1,0,0,0]) hL]
  rw [looseL_succ]
  have hlen := len_str s
  have hbl : (bys b).length = b.length := bys_length b
  have hone : ∀ n, (bys [UInt8.ofNat n]).length = 1 := fun n => rfl
  have hoka : ∀ n, ((bys [UInt8.ofNat n]).all fun y => y.cells.length == 1) = true := fun n => bys_all _
  have hsn : ∀ n, bys (b ++ [UInt8.ofNat n]) = bys b ++ bys [UInt8.ofNat n] := fun n => bys_append _ _
  have a0 := atL_lt s i
  have a1 := atL_lt s (i + 1)
  have a2 := atL_lt s (i + 2)
  have a3 := atL_lt s (i + 3)
  have w1 := wrap_i64 (n := (i : Int) + 1) ⟨by omega, by omega⟩
  have w2 := wrap_i64 (n := (i : Int) + 2) ⟨by omega, by omega⟩
  have w3 := wrap_i64 (n := (i : Int) + 3) ⟨by omega, by omega⟩
  have w4 := wrap_i64 (n := (i : Int) + 4) ⟨by omega, by omega⟩
  have cast1 : ((i + 1 : Nat) : Int) = (i : Int) + 1 := by omega
  have cast2 : ((i + 2 : Nat) : Int) = (i : Int) + 2 := by omega
  have cast3 : ((i + 3 : Nat) : Int) = (i : Int) + 3 := by omega
  have cast4 : ((i + 4 : Nat) : Int) = (i : Int) + 4 := by omega
  have hil : (i : Int) < (s.length : Int) := by omega
  have hix := ix_at s i hlt
  have c1' : (((atL s i : Nat) : Int) != 34) = true := by simp; omega
  have c2' : (((atL s i : Nat) : Int) != 92) = false := by rw [c2]; rfl
  rw [if_pos ⟨hlt, c1⟩, if_neg (fun h => h c2)]
  have d1' : (i : Int) + 1 < (s.length : Int) := by omega
  have hix1 := ix_at s (i + 1) d1
  rw [cast1] at hix1
  rw [if_pos ⟨d1, c3⟩]
  have hbs := bs_one (atL s (i + 1)) a1
  have key := fun e => ih (i + 2) (b ++ [UInt8.ofNat (atL s (i + 1))]) e (by omega) (by omega) (by rw [List.length_append, List.length_singleton]; omega)
  rw [cast2, hsn] at key
  have hok := hoka (atL s (i + 1))
  have hc : (bys b).length + (bys [UInt8.ofNat (atL s (i + 1))]).length ≤ 1000000 := by rw [hone, hbl]; omega
  generalize looseL m s (i + 2) (b ++ [UInt8.ofNat (atL s (i + 1))]) = o at *
  generalize bys [UInt8.ofNat (atL s (i + 1))] = ys at *
  generalize bys b = xs at *
  by_cases c4 : atL s (i + 1) = 34
  · have c4' : (((atL s (i + 1) : Nat) : Int) == 34) = true := by rw [c4]; rfl
    obtain ⟨ev, eo, so, co, ⟨hev, hco⟩, R⟩ := RULES CC; rw [← hev]
    rw [← hev] at key
    simp only [fpart, part', Try.f43, Option.getD]
    simp (maxSteps := 5000000) only [SA, SB, SD, R, guardAt, binP, intP, indexAddrP, elemsOf, readCells, lenP, lenAt, resultsP, resultP, oneOr, reduceCtorEq, reduceIte, Nat.reduceEqDiff, Nat.reduceAdd, Nat.zero_add, Nat.reduceMul, Nat.reduceLT, Nat.reduceLeDiff, Int.reduceLT, Int.reduceNeg, Int.reduceLE, appendP, appendAt, letGo, setLoc, locVal, Int.reduceToNat, boxCells, und, TG, SE, h0, h1, h6, h7, hlen, hil, hix, hix1, c1', c2', d1', c4', w1, w2, hbs, ap_u8, hok, hc]
    exact key _ (by simp (maxSteps := 5000000) only [SA, SB, SD, R, guardAt, binP, intP, indexAddrP, elemsOf, readCells, lenP, lenAt, resultsP, resultP, oneOr, reduceCtorEq, reduceIte, Nat.reduceEqDiff, Nat.reduceAdd, Nat.zero_add, Nat.reduceMul, Nat.reduceLT, Nat.reduceLeDiff, Int.reduceLT, Int.reduceNeg, Int.reduceLE, appendP, appendAt, letGo, setLoc, locVal, Int.reduceToNat, boxCells, und, h0]) (by simp (maxSteps := 5000000) only [SA, SB, SD, R, guardAt, binP, intP, indexAddrP, elemsOf, readCells, lenP, lenAt, resultsP, resultP, oneOr, reduceCtorEq, reduceIte, Nat.reduceEqDiff, Nat.reduceAdd, Nat.zero_add, Nat.reduceMul, Nat.reduceLT, Nat.reduceLeDiff, Int.reduceLT, Int.reduceNeg, Int.reduceLE, appendP, appendAt, letGo, setLoc, locVal, Int.reduceToNat, boxCells, und, h1]) (by simp (maxSteps := 5000000) only [SA, SB, SD, R, guardAt, binP, intP, indexAddrP, elemsOf, readCells, lenP, lenAt, resultsP, resultP, oneOr, reduceCtorEq, reduceIte, Nat.reduceEqDiff, Nat.reduceAdd, Nat.zero_add, Nat.reduceMul, Nat.reduceLT, Nat.reduceLeDiff, Int.reduceLT, Int.reduceNeg, Int.reduceLE, appendP, appendAt, letGo, setLoc, locVal, Int.reduceToNat, boxCells, und]) (by simp (maxSteps := 5000000) only [SA, SB, SD, R, guardAt, binP, intP, indexAddrP, elemsOf, readCells, lenP, lenAt, resultsP, resultP, oneOr, reduceCtorEq, reduceIte, Nat.reduceEqDiff, Nat.reduceAdd, Nat.zero_add, Nat.reduceMul, Nat.reduceLT, Nat.reduceLeDiff, Int.reduceLT, Int.reduceNeg, Int.reduceLE, appendP, appendAt, letGo, setLoc, locVal, Int.reduceToNat, boxCells, und])
  · have c4' : (((atL s (i + 1) : Nat) : Int) == 34) = false := by simp; omega
    have c5' : (((atL s (i + 1) : Nat) : Int) == 92) = true := by simp; omega
    obtain ⟨ev, eo, so, co, ⟨hev, hco⟩, R⟩ := RULES CC; rw [← hev]
    rw [← hev] at key
    simp only [fpart, part', Try.f43, Option.getD]
    simp (maxSteps := 5000000) only [SA, SB, SD, R, guardAt, binP, intP, indexAddrP, elemsOf, readCells, lenP, lenAt, resultsP, resultP, oneOr, reduceCtorEq, reduceIte, Nat.reduceEqDiff, Nat.reduceAdd, Nat.zero_add, Nat.reduceMul, Nat.reduceLT, Nat.reduceLeDiff, Int.reduceLT, Int.reduceNeg, Int.reduceLE, appendP, appendAt, letGo, setLoc, locVal, Int.reduceToNat, boxCells, und, TG, SE, h0, h1, h6, h7, hlen, hil, hix, hix1, c1', c2', d1', c4', c5', w1, w2, hbs, ap_u8, hok, hc]
    exact key _ (by simp (maxSteps := 5000000) only [SA, SB, SD, R, guardAt, binP, intP, indexAddrP, elemsOf, readCells, lenP, lenAt, resultsP, resultP, oneOr, reduceCtorEq, reduceIte, Nat.reduceEqDiff, Nat.reduceAdd, Nat.zero_add, Nat.reduceMul, Nat.reduceLT, Nat.reduceLeDiff, Int.reduceLT, Int.reduceNeg, Int.reduceLE, appendP, appendAt, letGo, setLoc, locVal, Int.reduceToNat, boxCells, und, h0]) (by simp (maxSteps := 5000000) only [SA, SB, SD, R, guardAt, binP, intP, indexAddrP, elemsOf, readCells, lenP, lenAt, resultsP, resultP, oneOr, reduceCtorEq, reduceIte, Nat.reduceEqDiff, Nat.reduceAdd, Nat.zero_add, Nat.reduceMul, Nat.reduceLT, Nat.reduceLeDiff, Int.reduceLT, Int.reduceNeg, Int.reduceLE, appendP, appendAt, letGo, setLoc, locVal, Int.reduceToNat, boxCells, und, h1]) (by simp (maxSteps := 5000000) only [SA, SB, SD, R, guardAt, binP, intP, indexAddrP, elemsOf, readCells, lenP, lenAt, resultsP, resultP, oneOr, reduceCtorEq, reduceIte, Nat.reduceEqDiff, Nat.reduceAdd, Nat.zero_add, Nat.reduceMul, Nat.reduceLT, Nat.reduceLeDiff, Int.reduceLT, Int.reduceNeg, Int.reduceLE, appendP, appendAt, letGo, setLoc, locVal, Int.reduceToNat, boxCells, und]) (by simp (maxSteps := 5000000) only [SA, SB, SD, R, guardAt, binP, intP, indexAddrP, elemsOf, readCells, lenP, lenAt, resultsP, resultP, oneOr, reduceCtorEq, reduceIte, Nat.reduceEqDiff, Nat.reduceAdd, Nat.zero_add, Nat.reduceMul, Nat.reduceLT, Nat.reduceLeDiff, Int.reduceLT, Int.reduceNeg, Int.reduceLE, appendP, appendAt, letGo, setLoc, locVal, Int.reduceToNat, boxCells, und])
theorem step_chr (s : List UInt8) (hs : s.length ≤ 40000) (m : Nat) (L : Code) (hL : L = fpart Try.f43 [1,1,1,1,0,0]) (ih : ∀ (i : Nat) (b : List UInt8) (e : List PV), s.length - i < m → i ≤ s.length → b.length ≤ i → getT e 0 = .str s → getT e 1 = .int .i64 0 → getT e 6 = .osl 5 (bys b) → getT e 7 = .int .i64 i → PLo s (looseL m s i b) (evL CC L ⟨e, []⟩)) (i : Nat) (b : List UInt8) (e : List PV) (hm : s.length - i < m + 1) (hi : i ≤ s.length) (hb : b.length ≤ i) (h0 : getT e 0 = .str s) (h1 : getT e 1 = .int .i64 0) (h6 : getT e 6 = .osl 5 (bys b)) (h7 : getT e 7 = .int .i64 i) (hlt : i < s.length) (c1 : atL s i ≠ 34) (c2 : atL s i ≠ 92) : PLo s (looseL (m + 1) s i b) (evL CC L ⟨e, []⟩) := by
  rw [evL_at (fpart Try.f43 [1,1,1,1,0,0,0]) hL]
  rw [looseL_succ]
  have hlen := len_str s
  have hbl : (bys b).length = b.length := bys_length b
  have hone : ∀ n, (bys [UInt8.ofNat n]).length = 1 := fun n => rfl
  have hoka : ∀ n, ((bys [UInt8.ofNat n]).all fun y => y.cells.length == 1) = true := fun n => bys_all _
  have hsn : ∀ n, bys (b ++ [UInt8.ofNat n]) = bys b ++ bys [UInt8.ofNat n] := fun n => bys_append _ _
  have a0 := atL_lt s i
  have a1 := atL_lt s (i + 1)
  have a2 := atL_lt s (i + 2)
  have a3 := atL_lt s (i + 3)
  have w1 := wrap_i64 (n := (i : Int) + 1) ⟨by omega, by omega⟩
  have w2 := wrap_i64 (n := (i : Int) + 2) ⟨by omega, by omega⟩
  have w3 := wrap_i64 (n := (i : Int) + 3) ⟨by omega, by omega⟩
  have w4 := wrap_i64 (n := (i : Int) + 4) ⟨by omega, by omega⟩
  have cast1 : ((i + 1 : Nat) : Int) = (i : Int) + 1 := by omega
  have cast2 : ((i + 2 : Nat) : Int) = (i : Int) + 2 := by omega
  have cast3 : ((i + 3 : Nat) : Int) = (i : Int) + 3 := by omega
  have cast4 : ((i + 4 : Nat) : Int) = (i : Int) + 4 := by omega
  have hil : (i : Int) < (s.length : Int) := by omega
  have hix := ix_at s i hlt
  have c1' : (((atL s i : Nat) : Int) != 34) = true := by simp; omega
  rw [if_pos ⟨hlt, c1⟩]
  have c2' : (((atL s i : Nat) : Int) != 92) = true := by simp; omega
  rw [if_pos c2]
  have hbs := bs_one (atL s i) a0
  have key := fun e => ih (i + 1) (b ++ [UInt8.ofNat (atL s i)]) e (by omega) (by omega) (by rw [List.length_append, List.length_singleton]; omega)
  rw [cast1, hsn] at key
  have hok := hoka (atL s i)
  have hc : (bys b).length + (bys [UInt8.ofNat (atL s i)]).length ≤ 1000000 := by rw [hone, hbl]; omega
  generalize looseL m s (i + 1) (b ++ [UInt8.ofNat (atL s i)]) = o at *
  generalize bys [UInt8.ofNat (atL s i)] = ys at *
  generalize bys b = xs at *
  obtain ⟨ev, eo, so, co, ⟨hev, hco⟩, R⟩ := RULES CC; rw [← hev]
  rw [← hev] at key
  simp only [fpart, part', Try.f43, Option.getD]
  simp (maxSteps := 5000000) only [SA, SB, SD, R, guardAt, binP, intP, indexAddrP, elemsOf, readCells, lenP, lenAt, resultsP, resultP, oneOr, reduceCtorEq, reduceIte, Nat.reduceEqDiff, Nat.reduceAdd, Nat.zero_add, Nat.reduceMul, Nat.reduceLT, Nat.reduceLeDiff, Int.reduceLT, Int.reduceNeg, Int.reduceLE, appendP, appendAt, letGo, setLoc, locVal, Int.reduceToNat, boxCells, und, TG, SE, h0, h1, h6, h7, hlen, hil, hix, c1', c2', w1, hbs, ap_u8, hok, hc]
  exact key _ (by simp (maxSteps := 5000000) only [SA, SB, SD, R, guardAt, binP, intP, indexAddrP, elemsOf, readCells, lenP, lenAt, resultsP, resultP, oneOr, reduceCtorEq, reduceIte, Nat.reduceEqDiff, Nat.reduceAdd, Nat.zero_add, Nat.reduceMul, Nat.reduceLT, Nat.reduceLeDiff, Int.reduceLT, Int.reduceNeg, Int.reduceLE, appendP, appendAt, letGo, setLoc, locVal, Int.reduceToNat, boxCells, und, h0]) (by simp (maxSteps := 5000000) only [SA, SB, SD, R, guardAt, binP, intP, indexAddrP, elemsOf, readCells, lenP, lenAt, resultsP, resultP, oneOr, reduceCtorEq, reduceIte, Nat.reduceEqDiff, Nat.reduceAdd, Nat.zero_add, Nat.reduceMul, Nat.reduceLT, Nat.reduceLeDiff, Int.reduceLT, Int.reduceNeg, Int.reduceLE, appendP, appendAt, letGo, setLoc, locVal, Int.reduceToNat, boxCells, und, h1]) (by simp (maxSteps := 5000000) only [SA, SB, SD, R, guardAt, binP, intP, indexAddrP, elemsOf, readCells, lenP, lenAt, resultsP, resultP, oneOr, reduceCtorEq, reduceIte, Nat.reduceEqDiff, Nat.reduceAdd, Nat.zero_add, Nat.reduceMul, Nat.reduceLT, Nat.reduceLeDiff, Int.reduceLT, Int.reduceNeg, Int.reduceLE, appendP, appendAt, letGo, setLoc, locVal, Int.reduceToNat, boxCells, und]) (by simp (maxSteps := 5000000) only [SA, SB, SD, R, guardAt, binP, intP, indexAddrP, elemsOf, readCells, lenP, lenAt, resultsP, resultP, oneOr, reduceCtorEq, reduceIte, Nat.reduceEqDiff, Nat.reduceAdd, Nat.zero_add, Nat.reduceMul, Nat.reduceLT, Nat.reduceLeDiff, Int.reduceLT, Int.reduceNeg, Int.reduceLE, appendP, appendAt, letGo, setLoc, locVal, Int.reduceToNat, boxCells, und])
theorem step_hex (s : List UInt8) (hs : s.length ≤ 40000) (m : Nat) (L : Code) (hL : L = fpart Try.f43 [1,1,1,1,0,0]) (ih : ∀ (i : Nat) (b : List UInt8) (e : List PV), s.length - i < m → i ≤ s.length → b.length ≤ i → getT e 0 = .str s → getT e 1 = .int .i64 0 → getT e 6 = .osl 5 (bys b) → getT e 7 = .int .i64 i → PLo s (looseL m s i b) (evL CC L ⟨e, []⟩)) (i : Nat) (b : List UInt8) (e : List PV) (hm : s.length - i < m + 1) (hi : i ≤ s.length) (hb : b.length ≤ i) (h0 : getT e 0 = .str s) (h1 : getT e 1 = .int .i64 0) (h6 : getT e 6 = .osl 5 (bys b)) (h7 : getT e 7 = .int .i64 i) (hlt : i < s.length) (c1 : atL s i ≠ 34) (c2 : atL s i = 92) (d1 : i + 1 < s.length) (c3 : ¬ (atL s (i + 1) = 34 ∨ atL s (i + 1) = 92)) (d3 : i + 3 < s.length) (c6 : atL s (i + 1) = 120) (c7 : 0 ≤ hexN (atL s (i + 2))) (c8 : 0 ≤ hexN (atL s (i + 3))) : PLo s (looseL (m + 1) s i b) (evL CC L ⟨e, []⟩) := by
  rw [evL_at (fpart Try.f43 [1,1,1,1,0,0,0]) hL]
  rw [looseL_succ]
  have hlen := len_str s
  have hbl : (bys b).length = b.length := bys_length b
  have hone : ∀ n, (bys [UInt8.ofNat n]).length = 1 := fun n => rfl
  have hoka : ∀ n, ((bys [UInt8.ofNat n]).all fun y => y.cells.length == 1) = true := fun n => bys_all _
  have hsn : ∀ n, bys (b ++ [UInt8.ofNat n]) = bys b ++ bys [UInt8.ofNat n] := fun n => bys_append _ _
  have a0 := atL_lt s i
  have a1 := atL_lt s (i + 1)
  have a2 := atL_lt s (i + 2)
  have a3 := atL_lt s (i + 3)
  have w1 := wrap_i64 (n := (i : Int) + 1) ⟨by omega, by omega⟩
  have w2 := wrap_i64 (n := (i : Int) + 2) ⟨by omega, by omega⟩
  have w3 := wrap_i64 (n := (i : Int) + 3) ⟨by omega, by omega⟩
  have w4 := wrap_i64 (n := (i : Int) + 4) ⟨by omega, by omega⟩
  have cast1 : ((i + 1 : Nat) : Int) = (i : Int) + 1 := by omega
  have cast2 : ((i + 2 : Nat) : Int) = (i : Int) + 2 := by omega
  have cast3 : ((i + 3 : Nat) : Int) = (i : Int) + 3 := by omega
  have cast4 : ((i + 4 : Nat) : Int) = (i : Int) + 4 := by omega
  have hil : (i : Int) < (s.length : Int) := by omega
  have hix := ix_at s i hlt
  have c1' : (((atL s i : Nat) : Int) != 34) = true := by simp; omega
  have c2' : (((atL s i : Nat) : Int) != 92) = false := by rw [c2]; rfl
  rw [if_pos ⟨hlt, c1⟩, if_neg (fun h => h c2)]
  have d1' : (i : Int) + 1 < (s.length : Int) := by omega
  have hix1 := ix_at s (i + 1) d1
  rw [cast1] at hix1
  rw [if_neg (fun h => c3 h.2)]
  have c4' : (((atL s (i + 1) : Nat) : Int) == 34) = false := by simp; omega
  have c5' : (((atL s (i + 1) : Nat) : Int) == 92) = false := by simp; omega
  have d3' : (i : Int) + 3 < (s.length : Int) := by omega
  have hix2 := ix_at s (i + 2) (by omega)
  have hix3 := ix_at s (i + 3) (by omega)
  rw [cast2] at hix2
  rw [cast3] at hix3
  have c6' : (((atL s (i + 1) : Nat) : Int) == 120) = true := by rw [c6]; rfl
  have hh2 := op_hex_n (atL s (i + 2)) a2
  have hh3 := op_hex_n (atL s (i + 3)) a3
  have hb2 := hexN_lt (atL s (i + 2))
  have hb3 := hexN_lt (atL s (i + 3))
  have c7' : hexN (atL s (i + 2)) ≥ 0 := c7
  have c8' : hexN (atL s (i + 3)) ≥ 0 := c8
  rw [if_pos ⟨d3, c6, c7, c8⟩]
  have hV : (hexN (atL s (i + 2)) * 16 + hexN (atL s (i + 3))).toNat < 256 := by omega
  have hVi : (((hexN (atL s (i + 2)) * 16 + hexN (atL s (i + 3))).toNat : Nat) : Int) = 16 * hexN (atL s (i + 2)) + hexN (atL s (i + 3)) := by omega
  have hbs := bs_one _ hV
  rw [hVi] at hbs
  have key := fun e => ih (i + 4) (b ++ [UInt8.ofNat (hexN (atL s (i + 2)) * 16 + hexN (atL s (i + 3))).toNat]) e (by omega) (by omega) (by rw [List.length_append, List.length_singleton]; omega)
  rw [cast4, hsn] at key
  have hok := hoka (hexN (atL s (i + 2)) * 16 + hexN (atL s (i + 3))).toNat
  have hc : (bys b).length + (bys [UInt8.ofNat (hexN (atL s (i + 2)) * 16 + hexN (atL s (i + 3))).toNat]).length ≤ 1000000 := by rw [hone, hbl]; omega
  have hcv := conv_i_u8 (16 * hexN (atL s (i + 2)) + hexN (atL s (i + 3))) ⟨by omega, by omega⟩
  have v1 := wrap_i64 (n := 16 * hexN (atL s (i + 2))) ⟨by omega, by omega⟩
  have v2 := wrap_i64 (n := 16 * hexN (atL s (i + 2)) + hexN (atL s (i + 3))) ⟨by omega, by omega⟩
  generalize looseL m s (i + 4) (b ++ [UInt8.ofNat (hexN (atL s (i + 2)) * 16 + hexN (atL s (i + 3))).toNat]) = o at *
  generalize bys [UInt8.ofNat (hexN (atL s (i + 2)) * 16 + hexN (atL s (i + 3))).toNat] = ys at *
  generalize bys b = xs at *
  obtain ⟨ev, eo, so, co, ⟨hev, hco⟩, R⟩ := RULES CC; rw [← hev]
  rw [← hev] at key
  rw [← hco] at hh2 hh3
  simp only [fpart, part', Try.f43, Option.getD]
  simp (maxSteps := 5000000) only [SA, SB, SD, R, guardAt, binP, intP, indexAddrP, elemsOf, readCells, lenP, lenAt, resultsP, resultP, oneOr, reduceCtorEq, reduceIte, Nat.reduceEqDiff, Nat.reduceAdd, Nat.zero_add, Nat.reduceMul, Nat.reduceLT, Nat.reduceLeDiff, Int.reduceLT, Int.reduceNeg, Int.reduceLE, appendP, appendAt, letGo, setLoc, locVal, Int.reduceToNat, boxCells, und, TG, SE, h0, h1, h6, h7, hlen, hil, hix, hix1, hix2, hix3, c1', c2', d1', c4', c5', d3', c6', hh2, hh3, c7', c8', v1, v2, hcv, w1, w2, w3, w4, hbs, ap_u8, hok, hc]
  exact key _ (by simp (maxSteps := 5000000) only [SA, SB, SD, R, guardAt, binP, intP, indexAddrP, elemsOf, readCells, lenP, lenAt, resultsP, resultP, oneOr, reduceCtorEq, reduceIte, Nat.reduceEqDiff, Nat.reduceAdd, Nat.zero_add, Nat.reduceMul, Nat.reduceLT, Nat.reduceLeDiff, Int.reduceLT, Int.reduceNeg, Int.reduceLE, appendP, appendAt, letGo, setLoc, locVal, Int.reduceToNat, boxCells, und, h0]) (by simp (maxSteps := 5000000) only [SA, SB, SD, R, guardAt, binP, intP, indexAddrP, elemsOf, readCells, lenP, lenAt, resultsP, resultP, oneOr, reduceCtorEq, reduceIte, Nat.reduceEqDiff, Nat.reduceAdd, Nat.zero_add, Nat.reduceMul, Nat.reduceLT, Nat.reduceLeDiff, Int.reduceLT, Int.reduceNeg, Int.reduceLE, appendP, appendAt, letGo, setLoc, locVal, Int.reduceToNat, boxCells, und, h1]) (by simp (maxSteps := 5000000) only [SA, SB, SD, R, guardAt, binP, intP, indexAddrP, elemsOf, readCells, lenP, lenAt, resultsP, resultP, oneOr, reduceCtorEq, reduceIte, Nat.reduceEqDiff, Nat.reduceAdd, Nat.zero_add, Nat.reduceMul, Nat.reduceLT, Nat.reduceLeDiff, Int.reduceLT, Int.reduceNeg, Int.reduceLE, appendP, appendAt, letGo, setLoc, locVal, Int.reduceToNat, boxCells, und]) (by simp (maxSteps := 5000000) only [SA, SB, SD, R, guardAt, binP, intP, indexAddrP, elemsOf, readCells, lenP, lenAt, resultsP, resultP, oneOr, reduceCtorEq, reduceIte, Nat.reduceEqDiff, Nat.reduceAdd, Nat.zero_add, Nat.reduceMul, Nat.reduceLT, Nat.reduceLeDiff, Int.reduceLT, Int.reduceNeg, Int.reduceLE, appendP, appendAt, letGo, setLoc, locVal, Int.reduceToNat, boxCells, und])
theorem loop_R04_quoted (L : Code) (hL : L = fpart Try.f43 [1,1,1,1,0,0]) (s : List UInt8) (hs : s.length ≤ 40000) : ∀ (m i : Nat) (b : List UInt8) (e : List PV), s.length - i < m → i ≤ s.length → b.length ≤ i → getT e 0 = .str s → getT e 1 = .int .i64 0 → getT e 6 = .osl 5 (bys b) → getT e 7 = .int .i64 i →
    PLo s (looseL m s i b) (evL CC L ⟨e, []⟩) := by
  intro m
  induction m with
  | zero => intro i b e hm; omega
  | succ m ih =>
    intro i b e hm hi hb h0 h1 h6 h7
    by_cases D : i < s.length ∧ atL s i ≠ 34 ∧ atL s i = 92 ∧ i + 1 < s.length ∧ (atL s (i + 1) = 34 ∨ atL s (i + 1) = 92)
    · exact step_esc s hs m L hL ih i b e hm hi hb h0 h1 h6 h7 D.1 D.2.1 D.2.2.1 D.2.2.2.1 D.2.2.2.2
    by_cases D' : i < s.length ∧ atL s i ≠ 34 ∧ atL s i = 92 ∧ i + 1 < s.length ∧ ¬ (atL s (i + 1) = 34 ∨ atL s (i + 1) = 92) ∧ i + 3 < s.length ∧ atL s (i + 1) = 120 ∧ 0 ≤ hexN (atL s (i + 2)) ∧ 0 ≤ hexN (atL s (i + 3))
    · obtain ⟨k1, k2, k3, k4, k5, k6, k7, k8, k9⟩ := D'
      exact step_hex s hs m L hL ih i b e hm hi hb h0 h1 h6 h7 k1 k2 k3 k4 k5 k6 k7 k8 k9
    by_cases D'' : i < s.length ∧ atL s i ≠ 34 ∧ atL s i ≠ 92
    · exact step_chr s hs m L hL ih i b e hm hi hb h0 h1 h6 h7 D''.1 D''.2.1 D''.2.2
    rw [evL_at (fpart Try.f43 [1,1,1,1,0,0,0]) hL]
    rw [looseL_succ]
    have hlen := len_str s
    have hbl : (bys b).length = b.length := bys_length b
    have hone : ∀ n, (bys [UInt8.ofNat n]).length = 1 := fun n => rfl
    have hoka : ∀ n, ((bys [UInt8.ofNat n]).all fun y => y.cells.length == 1) = true := fun n => bys_all _
    have hsn : ∀ n, bys (b ++ [UInt8.ofNat n]) = bys b ++ bys [UInt8.ofNat n] := fun n => bys_append _ _
    have a0 := atL_lt s i
    have a1 := atL_lt s (i + 1)
    have a2 := atL_lt s (i + 2)
    have a3 := atL_lt s (i + 3)
    have w1 := wrap_i64 (n := (i : Int) + 1) ⟨by omega, by omega⟩
    have w2 := wrap_i64 (n := (i : Int) + 2) ⟨by omega, by omega⟩
    have w3 := wrap_i64 (n := (i : Int) + 3) ⟨by omega, by omega⟩
    have w4 := wrap_i64 (n := (i : Int) + 4) ⟨by omega, by omega⟩
    have cast1 : ((i + 1 : Nat) : Int) = (i : Int) + 1 := by omega
    have cast2 : ((i + 2 : Nat) : Int) = (i : Int) + 2 := by omega
    have cast3 : ((i + 3 : Nat) : Int) = (i : Int) + 3 := by omega
    have cast4 : ((i + 4 : Nat) : Int) = (i : Int) + 4 := by omega
    by_cases hlt : i < s.length
    · have hil : (i : Int) < (s.length : Int) := by omega
      have hix := ix_at s i hlt
      by_cases c1 : atL s i = 34
      · have c1' : (((atL s i : Nat) : Int) != 34) = false := by rw [c1]; rfl
        rw [if_neg (fun h => h.2 c1)]
        obtain ⟨ev, eo, so, co, ⟨hev, hco⟩, R⟩ := RULES CC; rw [← hev]
        simp only [fpart, part', Try.f43, Option.getD]
        simp (maxSteps := 5000000) only [SA, SB, SD, R, guardAt, binP, intP, indexAddrP, elemsOf, readCells, lenP, lenAt, resultsP, resultP, oneOr, reduceCtorEq, reduceIte, Nat.reduceEqDiff, Nat.reduceAdd, Nat.zero_add, Nat.reduceMul, Nat.reduceLT, Nat.reduceLeDiff, Int.reduceLT, Int.reduceNeg, Int.reduceLE, appendP, appendAt, letGo, setLoc, locVal, Int.reduceToNat, boxCells, und, TG, SE, h0, h1, h6, h7, hlen, hil, hix, c1']
        exact ⟨_, rfl, by simp (maxSteps := 5000000) only [SA, SB, SD, R, guardAt, binP, intP, indexAddrP, elemsOf, readCells, lenP, lenAt, resultsP, resultP, oneOr, reduceCtorEq, reduceIte, Nat.reduceEqDiff, Nat.reduceAdd, Nat.zero_add, Nat.reduceMul, Nat.reduceLT, Nat.reduceLeDiff, Int.reduceLT, Int.reduceNeg, Int.reduceLE, appendP, appendAt, letGo, setLoc, locVal, Int.reduceToNat, boxCells, und, h0], by simp (maxSteps := 5000000) only [SA, SB, SD, R, guardAt, binP, intP, indexAddrP, elemsOf, readCells, lenP, lenAt, resultsP, resultP, oneOr, reduceCtorEq, reduceIte, Nat.reduceEqDiff, Nat.reduceAdd, Nat.zero_add, Nat.reduceMul, Nat.reduceLT, Nat.reduceLeDiff, Int.reduceLT, Int.reduceNeg, Int.reduceLE, appendP, appendAt, letGo, setLoc, locVal, Int.reduceToNat, boxCells, und, h1], by simp (maxSteps := 5000000) only [SA, SB, SD, R, guardAt, binP, intP, indexAddrP, elemsOf, readCells, lenP, lenAt, resultsP, resultP, oneOr, reduceCtorEq, reduceIte, Nat.reduceEqDiff, Nat.reduceAdd, Nat.zero_add, Nat.reduceMul, Nat.reduceLT, Nat.reduceLeDiff, Int.reduceLT, Int.reduceNeg, Int.reduceLE, appendP, appendAt, letGo, setLoc, locVal, Int.reduceToNat, boxCells, und, h6], by simp (maxSteps := 5000000) only [SA, SB, SD, R, guardAt, binP, intP, indexAddrP, elemsOf, readCells, lenP, lenAt, resultsP, resultP, oneOr, reduceCtorEq, reduceIte, Nat.reduceEqDiff, Nat.reduceAdd, Nat.zero_add, Nat.reduceMul, Nat.reduceLT, Nat.reduceLeDiff, Int.reduceLT, Int.reduceNeg, Int.reduceLE, appendP, appendAt, letGo, setLoc, locVal, Int.reduceToNat, boxCells, und, h7], hb, hi⟩
      · have c1' : (((atL s i : Nat) : Int) != 34) = true := by simp; omega
        rw [if_pos ⟨hlt, c1⟩]
        by_cases c2 : atL s i = 92
        · have c2' : (((atL s i : Nat) : Int) != 92) = false := by rw [c2]; rfl
          rw [if_neg (fun h => h c2)]
          by_cases d1 : i + 1 < s.length
          · have d1' : (i : Int) + 1 < (s.length : Int) := by omega
            have hix1 := ix_at s (i + 1) d1
            rw [cast1] at hix1
            by_cases c3 : atL s (i + 1) = 34 ∨ atL s (i + 1) = 92
            · exact absurd ⟨hlt, c1, c2, d1, c3⟩ D
            · rw [if_neg (fun h => c3 h.2)]
              have c4' : (((atL s (i + 1) : Nat) : Int) == 34) = false := by simp; omega
              have c5' : (((atL s (i + 1) : Nat) : Int) == 92) = false := by simp; omega
              by_cases d3 : i + 3 < s.length
              · have d3' : (i : Int) + 3 < (s.length : Int) := by omega
                have hix2 := ix_at s (i + 2) (by omega)
                have hix3 := ix_at s (i + 3) (by omega)
                rw [cast2] at hix2
                rw [cast3] at hix3
                by_cases c6 : atL s (i + 1) = 120
                · have c6' : (((atL s (i + 1) : Nat) : Int) == 120) = true := by rw [c6]; rfl
                  have hh2 := op_hex_n (atL s (i + 2)) a2
                  have hh3 := op_hex_n (atL s (i + 3)) a3
                  have hb2 := hexN_lt (atL s (i + 2))
                  have hb3 := hexN_lt (atL s (i + 3))
                  by_cases c7 : 0 ≤ hexN (atL s (i + 2))
                  · have c7' : hexN (atL s (i + 2)) ≥ 0 := c7
                    by_cases c8 : 0 ≤ hexN (atL s (i + 3))
                    · exact absurd ⟨hlt, c1, c2, d1, c3, d3, c6, c7, c8⟩ D'
                    · have c8' : ¬ hexN (atL s (i + 3)) ≥ 0 := c8
                      rw [if_neg (fun h => c8 h.2.2.2)]
                      obtain ⟨ev, eo, so, co, ⟨hev, hco⟩, R⟩ := RULES CC; rw [← hev]
                      rw [← hco] at hh2 hh3
                      simp only [fpart, part', Try.f43, Option.getD]
                      simp (maxSteps := 5000000) only [SA, SB, SD, R, guardAt, binP, intP, indexAddrP, elemsOf, readCells, lenP, lenAt, resultsP, resultP, oneOr, reduceCtorEq, reduceIte, Nat.reduceEqDiff, Nat.reduceAdd, Nat.zero_add, Nat.reduceMul, Nat.reduceLT, Nat.reduceLeDiff, Int.reduceLT, Int.reduceNeg, Int.reduceLE, appendP, appendAt, letGo, setLoc, locVal, Int.reduceToNat, boxCells, und, TG, SE, h0, h1, h6, h7, hlen, hil, hix, hix1, hix2, hix3, c1', c2', d1', c4', c5', d3', c6', hh2, hh3, c7', c8', w1, w2, w3, w4]
                      exact ⟨_, rfl, by simp (maxSteps := 5000000) only [SA, SB, SD, R, guardAt, binP, intP, indexAddrP, elemsOf, readCells, lenP, lenAt, resultsP, resultP, oneOr, reduceCtorEq, reduceIte, Nat.reduceEqDiff, Nat.reduceAdd, Nat.zero_add, Nat.reduceMul, Nat.reduceLT, Nat.reduceLeDiff, Int.reduceLT, Int.reduceNeg, Int.reduceLE, appendP, appendAt, letGo, setLoc, locVal, Int.reduceToNat, boxCells, und], by simp (maxSteps := 5000000) only [SA, SB, SD, R, guardAt, binP, intP, indexAddrP, elemsOf, readCells, lenP, lenAt, resultsP, resultP, oneOr, reduceCtorEq, reduceIte, Nat.reduceEqDiff, Nat.reduceAdd, Nat.zero_add, Nat.reduceMul, Nat.reduceLT, Nat.reduceLeDiff, Int.reduceLT, Int.reduceNeg, Int.reduceLE, appendP, appendAt, letGo, setLoc, locVal, Int.reduceToNat, boxCells, und]⟩
                  · have c7' : ¬ hexN (atL s (i + 2)) ≥ 0 := c7
                    rw [if_neg (fun h => c7 h.2.2.1)]
                    obtain ⟨ev, eo, so, co, ⟨hev, hco⟩, R⟩ := RULES CC; rw [← hev]
                    rw [← hco] at hh2 hh3
                    simp only [fpart, part', Try.f43, Option.getD]
                    simp (maxSteps := 5000000) only [SA, SB, SD, R, guardAt, binP, intP, indexAddrP, elemsOf, readCells, lenP, lenAt, resultsP, resultP, oneOr, reduceCtorEq, reduceIte, Nat.reduceEqDiff, Nat.reduceAdd, Nat.zero_add, Nat.reduceMul, Nat.reduceLT, Nat.reduceLeDiff, Int.reduceLT, Int.reduceNeg, Int.reduceLE, appendP, appendAt, letGo, setLoc, locVal, Int.reduceToNat, boxCells, und, TG, SE, h0, h1, h6, h7, hlen, hil, hix, hix1, hix2, hix3, c1', c2', d1', c4', c5', d3', c6', hh2, hh3, c7', w1, w2, w3, w4]
                    exact ⟨_, rfl, by simp (maxSteps := 5000000) only [SA, SB, SD, R, guardAt, binP, intP, indexAddrP, elemsOf, readCells, lenP, lenAt, resultsP, resultP, oneOr, reduceCtorEq, reduceIte, Nat.reduceEqDiff, Nat.reduceAdd, Nat.zero_add, Nat.reduceMul, Nat.reduceLT, Nat.reduceLeDiff, Int.reduceLT, Int.reduceNeg, Int.reduceLE, appendP, appendAt, letGo, setLoc, locVal, Int.reduceToNat, boxCells, und], by simp (maxSteps := 5000000) only [SA, SB, SD, R, guardAt, binP, intP, indexAddrP, elemsOf, readCells, lenP, lenAt, resultsP, resultP, oneOr, reduceCtorEq, reduceIte, Nat.reduceEqDiff, Nat.reduceAdd, Nat.zero_add, Nat.reduceMul, Nat.reduceLT, Nat.reduceLeDiff, Int.reduceLT, Int.reduceNeg, Int.reduceLE, appendP, appendAt, letGo, setLoc, locVal, Int.reduceToNat, boxCells, und]⟩
                · have c6' : (((atL s (i + 1) : Nat) : Int) == 120) = false := by simp; omega
                  rw [if_neg (fun h => c6 h.2.1)]
                  obtain ⟨ev, eo, so, co, ⟨hev, hco⟩, R⟩ := RULES CC; rw [← hev]
                  simp only [fpart, part', Try.f43, Option.getD]
                  simp (maxSteps := 5000000) only [SA, SB, SD, R, guardAt, binP, intP, indexAddrP, elemsOf, readCells, lenP, lenAt, resultsP, resultP, oneOr, reduceCtorEq, reduceIte, Nat.reduceEqDiff, Nat.reduceAdd, Nat.zero_add, Nat.reduceMul, Nat.reduceLT, Nat.reduceLeDiff, Int.reduceLT, Int.reduceNeg, Int.reduceLE, appendP, appendAt, letGo, setLoc, locVal, Int.reduceToNat, boxCells, und, TG, SE, h0, h1, h6, h7, hlen, hil, hix, hix1, hix2, hix3, c1', c2', d1', c4', c5', d3', c6', w1, w2, w3, w4]
                  exact ⟨_, rfl, by simp (maxSteps := 5000000) only [SA, SB, SD, R, guardAt, binP, intP, indexAddrP, elemsOf, readCells, lenP, lenAt, resultsP, resultP, oneOr, reduceCtorEq, reduceIte, Nat.reduceEqDiff, Nat.reduceAdd, Nat.zero_add, Nat.reduceMul, Nat.reduceLT, Nat.reduceLeDiff, Int.reduceLT, Int.reduceNeg, Int.reduceLE, appendP, appendAt, letGo, setLoc, locVal, Int.reduceToNat, boxCells, und], by simp (maxSteps := 5000000) only [SA, SB, SD, R, guardAt, binP, intP, indexAddrP, elemsOf, readCells, lenP, lenAt, resultsP, resultP, oneOr, reduceCtorEq, reduceIte, Nat.reduceEqDiff, Nat.reduceAdd, Nat.zero_add, Nat.reduceMul, Nat.reduceLT, Nat.reduceLeDiff, Int.reduceLT, Int.reduceNeg, Int.reduceLE, appendP, appendAt, letGo, setLoc, locVal, Int.reduceToNat, boxCells, und]⟩
              · have d3' : ¬ (i : Int) + 3 < (s.length : Int) := by omega
                rw [if_neg (fun h => d3 h.1)]
                obtain ⟨ev, eo, so, co, ⟨hev, hco⟩, R⟩ := RULES CC; rw [← hev]
                simp only [fpart, part', Try.f43, Option.getD]
                simp (maxSteps := 5000000) only [SA, SB, SD, R, guardAt, binP, intP, indexAddrP, elemsOf, readCells, lenP, lenAt, resultsP, resultP, oneOr, reduceCtorEq, reduceIte, Nat.reduceEqDiff, Nat.reduceAdd, Nat.zero_add, Nat.reduceMul, Nat.reduceLT, Nat.reduceLeDiff, Int.reduceLT, Int.reduceNeg, Int.reduceLE, appendP, appendAt, letGo, setLoc, locVal, Int.reduceToNat, boxCells, und, TG, SE, h0, h1, h6, h7, hlen, hil, hix, hix1, c1', c2', d1', c4', c5', d3', w1, w2, w3, w4]
                exact ⟨_, rfl, by simp (maxSteps := 5000000) only [SA, SB, SD, R, guardAt, binP, intP, indexAddrP, elemsOf, readCells, lenP, lenAt, resultsP, resultP, oneOr, reduceCtorEq, reduceIte, Nat.reduceEqDiff, Nat.reduceAdd, Nat.zero_add, Nat.reduceMul, Nat.reduceLT, Nat.reduceLeDiff, Int.reduceLT, Int.reduceNeg, Int.reduceLE, appendP, appendAt, letGo, setLoc, locVal, Int.reduceToNat, boxCells, und], by simp (maxSteps := 5000000) only [SA, SB, SD, R, guardAt, binP, intP, indexAddrP, elemsOf, readCells, lenP, lenAt, resultsP, resultP, oneOr, reduceCtorEq, reduceIte, Nat.reduceEqDiff, Nat.reduceAdd, Nat.zero_add, Nat.reduceMul, Nat.reduceLT, Nat.reduceLeDiff, Int.reduceLT, Int.reduceNeg, Int.reduceLE, appendP, appendAt, letGo, setLoc, locVal, Int.reduceToNat, boxCells, und]⟩
          · have d1' : ¬ (i : Int) + 1 < (s.length : Int) := by omega
            have d3' : ¬ (i : Int) + 3 < (s.length : Int) := by omega
            rw [if_neg (fun h => d1 h.1), if_neg (fun h => by have := h.1; omega)]
            obtain ⟨ev, eo, so, co, ⟨hev, hco⟩, R⟩ := RULES CC; rw [← hev]
            simp only [fpart, part', Try.f43, Option.getD]
            simp (maxSteps := 5000000) only [SA, SB, SD, R, guardAt, binP, intP, indexAddrP, elemsOf, readCells, lenP, lenAt, resultsP, resultP, oneOr, reduceCtorEq, reduceIte, Nat.reduceEqDiff, Nat.reduceAdd, Nat.zero_add, Nat.reduceMul, Nat.reduceLT, Nat.reduceLeDiff, Int.reduceLT, Int.reduceNeg, Int.reduceLE, appendP, appendAt, letGo, setLoc, locVal, Int.reduceToNat, boxCells, und, TG, SE, h0, h1, h6, h7, hlen, hil, hix, c1', c2', d1', d3', w1, w2, w3, w4]
            exact ⟨_, rfl, by simp (maxSteps := 5000000) only [SA, SB, SD, R, guardAt, binP, intP, indexAddrP, elemsOf, readCells, lenP, lenAt, resultsP, resultP, oneOr, reduceCtorEq, reduceIte, Nat.reduceEqDiff, Nat.reduceAdd, Nat.zero_add, Nat.reduceMul, Nat.reduceLT, Nat.reduceLeDiff, Int.reduceLT, Int.reduceNeg, Int.reduceLE, appendP, appendAt, letGo, setLoc, locVal, Int.reduceToNat, boxCells, und], by simp (maxSteps := 5000000) only [SA, SB, SD, R, guardAt, binP, intP, indexAddrP, elemsOf, readCells, lenP, lenAt, resultsP, resultP, oneOr, reduceCtorEq, reduceIte, Nat.reduceEqDiff, Nat.reduceAdd, Nat.zero_add, Nat.reduceMul, Nat.reduceLT, Nat.reduceLeDiff, Int.reduceLT, Int.reduceNeg, Int.reduceLE, appendP, appendAt, letGo, setLoc, locVal, Int.reduceToNat, boxCells, und]⟩
        · exact absurd ⟨hlt, c1, c2⟩ D''
    · have hil : ¬ (i : Int) < (s.length : Int) := by omega
      rw [if_neg (fun h => hlt h.1)]
      obtain ⟨ev, eo, so, co, ⟨hev, hco⟩, R⟩ := RULES CC; rw [← hev]
      simp only [fpart, part', Try.f43, Option.getD]
      simp (maxSteps := 5000000) only [SA, SB, SD, R, guardAt, binP, intP, indexAddrP, elemsOf, readCells, lenP, lenAt, resultsP, resultP, oneOr, reduceCtorEq, reduceIte, Nat.reduceEqDiff, Nat.reduceAdd, Nat.zero_add, Nat.reduceMul, Nat.reduceLT, Nat.reduceLeDiff, Int.reduceLT, Int.reduceNeg, Int.reduceLE, appendP, appendAt, letGo, setLoc, locVal, Int.reduceToNat, boxCells, und, TG, SE, h0, h1, h6, h7, hlen, hil]
      exact ⟨_, rfl, by simp (maxSteps := 5000000) only [SA, SB, SD, R, guardAt, binP, intP, indexAddrP, elemsOf, readCells, lenP, lenAt, resultsP, resultP, oneOr, reduceCtorEq, reduceIte, Nat.reduceEqDiff, Nat.reduceAdd, Nat.zero_add, Nat.reduceMul, Nat.reduceLT, Nat.reduceLeDiff, Int.reduceLT, Int.reduceNeg, Int.reduceLE, appendP, appendAt, letGo, setLoc, locVal, Int.reduceToNat, boxCells, und, h0], by simp (maxSteps := 5000000) only [SA, SB, SD, R, guardAt, binP, intP, indexAddrP, elemsOf, readCells, lenP, lenAt, resultsP, resultP, oneOr, reduceCtorEq, reduceIte, Nat.reduceEqDiff, Nat.reduceAdd, Nat.zero_add, Nat.reduceMul, Nat.reduceLT, Nat.reduceLeDiff, Int.reduceLT, Int.reduceNeg, Int.reduceLE, appendP, appendAt, letGo, setLoc, locVal, Int.reduceToNat, boxCells, und, h1], by simp (maxSteps := 5000000) only [SA, SB, SD, R, guardAt, binP, intP, indexAddrP, elemsOf, readCells, lenP, lenAt, resultsP, resultP, oneOr, reduceCtorEq, reduceIte, Nat.reduceEqDiff, Nat.reduceAdd, Nat.zero_add, Nat.reduceMul, Nat.reduceLT, Nat.reduceLeDiff, Int.reduceLT, Int.reduceNeg, Int.reduceLE, appendP, appendAt, letGo, setLoc, locVal, Int.reduceToNat, boxCells, und, h6], by simp (maxSteps := 5000000) only [SA, SB, SD, R, guardAt, binP, intP, indexAddrP, elemsOf, readCells, lenP, lenAt, resultsP, resultP, oneOr, reduceCtorEq, reduceIte, Nat.reduceEqDiff, Nat.reduceAdd, Nat.zero_add, Nat.reduceMul, Nat.reduceLT, Nat.reduceLeDiff, Int.reduceLT, Int.reduceNeg, Int.reduceLE, appendP, appendAt, letGo, setLoc, locVal, Int.reduceToNat, boxCells, und, h7], hb, hi⟩
theorem ok_R04_Unquote : fnOK CC Try.f36 (Try.f36.body.getD .skip) = true := by kernel_rfl
theorem fat_R04_Unquote : CC.P.funcs[36]? = some Try.f36 := by kernel_rfl
/-- the specification's 'quoted' at the beginning -/
def quotedV : Option (List UInt8 × Nat) → PV
  | some (t, k) => .tup [.str t, .int .i64 (k : Int)]
  | none => .tup [.str [], .int .i64 (-1)]
theorem call_R04_quoted (s : List UInt8) (hs : s.length ≤ 40000) : callL CC 43 [.str s, .int .i64 0] [] = some (.ret (quotedV (quotedR s)), []) := by
  rw [callL_enter (fn := Try.f43) (c := Try.f43.body.getD .skip) rfl rfl fat_R04_quoted rfl ok_R04_quoted (Nat.le_of_ble_eq_true rfl)]
  have hlen := len_str s
  unfold quotedR
  by_cases hne : 0 < s.length
  · have hge : ¬ (0 : Int) ≥ (s.length : Int) := by omega
    have hix := ix_at s 0 hne
    have hix : indexV CC 9 (.str s) (.int .i64 0) = some (.int .u8 ((atL s 0 : Nat) : Int)) := hix
    have hh : s.head? = some 34 ↔ atL s 0 = 34 := by
      cases s with
      | nil => simp at hne
      | cons c r =>
        show some c = some 34 ↔ c.toNat = 34
        rw [Option.some_inj, ← UInt8.toNat_inj]
        exact Iff.rfl
    by_cases c1 : atL s 0 = 34
    · have c1' : (((atL s 0 : Nat) : Int) != 34) = false := by rw [c1]; rfl
      rw [if_pos (hh.2 c1)]
      have hloop := fun e => loop_R04_quoted _ rfl s hs (s.length + 1) 1 [] e (by omega) (by omega) (by simp)
      have hb0 : bys [] = [] := rfl
      rw [hb0] at hloop
      have hbd : ∀ b i, looseL (s.length + 1) s 1 [] = some (b, i) → True := fun _ _ _ => trivial
      have hcv1 := conv_b1
      have hcv2 := conv_b2
      have hquo := op_R04_Quote
      have hsl := fun (i : Nat) (h : i < s.length) => sl_str s 0 ((i : Int) + 1) (by omega) (by omega) (by omega)
      have w := fun (i : Nat) (h : i ≤ s.length) => wrap_i64 (n := (i : Int) + 1) ⟨by omega, by omega⟩
      generalize looseL (s.length + 1) s 1 [] = o at *
      obtain ⟨ev, eo, so, co, ⟨hev, hco⟩, R⟩ := RULES CC; rw [← hev]
      rw [← hev] at hloop
      rw [← hco] at hquo
      simp only [fpart, part', Try.f43, Option.getD] at hloop ⊢
      simp (maxSteps := 5000000) only [SA, SB, SD, R, guardAt, binP, intP, indexAddrP, elemsOf, readCells, lenP, lenAt, resultsP, resultP, oneOr, reduceCtorEq, reduceIte, Nat.reduceEqDiff, Nat.reduceAdd, Nat.zero_add, Nat.reduceMul, Nat.reduceLT, Nat.reduceLeDiff, Int.reduceLT, Int.reduceNeg, Int.reduceLE, appendP, appendAt, letGo, setLoc, locVal, Int.reduceToNat, boxCells, und, TG, SE, hlen, hge, hix, c1']
      generalize hE : ev _ _ = z
      have hP : PLo s o z := by
        rw [← hE]
        refine hloop _ ?_ ?_ ?_ ?_
        · simp (maxSteps := 5000000) only [SA, SB, SD, R, guardAt, binP, intP, indexAddrP, elemsOf, readCells, lenP, lenAt, resultsP, resultP, oneOr, reduceCtorEq, reduceIte, Nat.reduceEqDiff, Nat.reduceAdd, Nat.zero_add, Nat.reduceMul, Nat.reduceLT, Nat.reduceLeDiff, Int.reduceLT, Int.reduceNeg, Int.reduceLE, appendP, appendAt, letGo, setLoc, locVal, Int.reduceToNat, boxCells, und]
        · simp (maxSteps := 5000000) only [SA, SB, SD, R, guardAt, binP, intP, indexAddrP, elemsOf, readCells, lenP, lenAt, resultsP, resultP, oneOr, reduceCtorEq, reduceIte, Nat.reduceEqDiff, Nat.reduceAdd, Nat.zero_add, Nat.reduceMul, Nat.reduceLT, Nat.reduceLeDiff, Int.reduceLT, Int.reduceNeg, Int.reduceLE, appendP, appendAt, letGo, setLoc, locVal, Int.reduceToNat, boxCells, und]
        · simp (maxSteps := 5000000) only [SA, SB, SD, R, guardAt, binP, intP, indexAddrP, elemsOf, readCells, lenP, lenAt, resultsP, resultP, oneOr, reduceCtorEq, reduceIte, Nat.reduceEqDiff, Nat.reduceAdd, Nat.zero_add, Nat.reduceMul, Nat.reduceLT, Nat.reduceLeDiff, Int.reduceLT, Int.reduceNeg, Int.reduceLE, appendP, appendAt, letGo, setLoc, locVal, Int.reduceToNat, boxCells, und]
        · simp (maxSteps := 5000000) only [SA, SB, SD, R, guardAt, binP, intP, indexAddrP, elemsOf, readCells, lenP, lenAt, resultsP, resultP, oneOr, reduceCtorEq, reduceIte, Nat.reduceEqDiff, Nat.reduceAdd, Nat.zero_add, Nat.reduceMul, Nat.reduceLT, Nat.reduceLeDiff, Int.reduceLT, Int.reduceNeg, Int.reduceLE, appendP, appendAt, letGo, setLoc, locVal, Int.reduceToNat, boxCells, und]; rfl
      clear hE hloop
      match o, hP with
      | none, hP =>
        obtain ⟨e', he, h4, h5⟩ := hP
        subst he
        simp (maxSteps := 5000000) only [SA, SB, SD, R, guardAt, binP, intP, indexAddrP, elemsOf, readCells, lenP, lenAt, resultsP, resultP, oneOr, reduceCtorEq, reduceIte, Nat.reduceEqDiff, Nat.reduceAdd, Nat.zero_add, Nat.reduceMul, Nat.reduceLT, Nat.reduceLeDiff, Int.reduceLT, Int.reduceNeg, Int.reduceLE, appendP, appendAt, letGo, setLoc, locVal, Int.reduceToNat, boxCells, und, TG, SE, h4, h5]
        rfl
      | some (b, i), hP =>
        obtain ⟨e', he, h0, h1, h6, h7, hb, hi⟩ := hP
        subst he
        have hcv1 := hcv1 b
        have hcv2 := hcv2 b
        have hquo := hquo b (by omega)
        have w := w i hi
        by_cases d1 : i < s.length
        · have d1' : ¬ (i : Int) ≥ (s.length : Int) := by omega
          have hsl := hsl i d1
          have hto : ((i : Int) + 1).toNat = i + 1 := by omega
          rw [hto, show (0 : Int).toNat = 0 from rfl, List.drop_zero] at hsl
          have hne := strP_neq (quoteL b) (s.take (i + 1))
          by_cases d2 : quoteL b = s.take (i + 1)
          · have d2' : (quoteL b == s.take (i + 1)) = true := by simpa using d2
            rw [d2'] at hne
            have hcs : ((i + 1 : Nat) : Int) = (i : Int) + 1 := by omega
            simp only [ge_iff_le, d2, ne_eq, not_true_eq_false, or_false, if_neg (by omega : ¬ s.length ≤ i), quotedV, hcs]
            rw [d2] at hne hquo
            generalize s.take (i + 1) = u at *
            simp (maxSteps := 5000000) only [SA, SB, SD, R, guardAt, binP, intP, indexAddrP, elemsOf, readCells, lenP, lenAt, resultsP, resultP, oneOr, reduceCtorEq, reduceIte, Nat.reduceEqDiff, Nat.reduceAdd, Nat.zero_add, Nat.reduceMul, Nat.reduceLT, Nat.reduceLeDiff, Int.reduceLT, Int.reduceNeg, Int.reduceLE, appendP, appendAt, letGo, setLoc, locVal, Int.reduceToNat, boxCells, und, TG, SE, h0, h1, h6, h7, hlen, d1', hcv1, hcv2, hquo, hsl, w, hne, Bool.not_true]
          · have d2' : (quoteL b == s.take (i + 1)) = false := by simpa using d2
            rw [d2'] at hne
            simp only [ge_iff_le, ne_eq, d2, not_false_eq_true, or_true, if_true, quotedV]
            generalize s.take (i + 1) = u at *
            simp (maxSteps := 5000000) only [SA, SB, SD, R, guardAt, binP, intP, indexAddrP, elemsOf, readCells, lenP, lenAt, resultsP, resultP, oneOr, reduceCtorEq, reduceIte, Nat.reduceEqDiff, Nat.reduceAdd, Nat.zero_add, Nat.reduceMul, Nat.reduceLT, Nat.reduceLeDiff, Int.reduceLT, Int.reduceNeg, Int.reduceLE, appendP, appendAt, letGo, setLoc, locVal, Int.reduceToNat, boxCells, und, TG, SE, h0, h1, h6, h7, hlen, d1', hcv1, hcv2, hquo, hsl, w, hne, Bool.not_false]
        · have d1' : (i : Int) ≥ (s.length : Int) := by omega
          simp only [ge_iff_le, if_pos (Or.inl (by omega) : s.length ≤ i ∨ quoteL b ≠ s.take (i + 1)), quotedV]
          simp (maxSteps := 5000000) only [SA, SB, SD, R, guardAt, binP, intP, indexAddrP, elemsOf, readCells, lenP, lenAt, resultsP, resultP, oneOr, reduceCtorEq, reduceIte, Nat.reduceEqDiff, Nat.reduceAdd, Nat.zero_add, Nat.reduceMul, Nat.reduceLT, Nat.reduceLeDiff, Int.reduceLT, Int.reduceNeg, Int.reduceLE, appendP, appendAt, letGo, setLoc, locVal, Int.reduceToNat, boxCells, und, TG, SE, h0, h1, h6, h7, hlen, d1', hcv1, hcv2, hquo, w]
    · have c1' : (((atL s 0 : Nat) : Int) != 34) = true := by simp; omega
      rw [if_neg (fun h => c1 (hh.1 h))]
      unfold quotedV
      obtain ⟨ev, eo, so, co, ⟨hev, hco⟩, R⟩ := RULES CC; rw [← hev]
      simp only [fpart, part', Try.f43, Option.getD]
      simp (maxSteps := 5000000) only [SA, SB, SD, R, guardAt, binP, intP, indexAddrP, elemsOf, readCells, lenP, lenAt, resultsP, resultP, oneOr, reduceCtorEq, reduceIte, Nat.reduceEqDiff, Nat.reduceAdd, Nat.zero_add, Nat.reduceMul, Nat.reduceLT, Nat.reduceLeDiff, Int.reduceLT, Int.reduceNeg, Int.reduceLE, appendP, appendAt, letGo, setLoc, locVal, Int.reduceToNat, boxCells, und, TG, SE, hlen, hge, hix, c1']
  · have hge : (0 : Int) ≥ (s.length : Int) := by omega
    have hs0 : s = [] := List.length_eq_zero_iff.1 (by omega)
    rw [if_neg (by rw [hs0]; simp)]
    unfold quotedV
    obtain ⟨ev, eo, so, co, ⟨hev, hco⟩, R⟩ := RULES CC; rw [← hev]
    simp only [fpart, part', Try.f43, Option.getD]
    simp (maxSteps := 5000000) only [SA, SB, SD, R, guardAt, binP, intP, indexAddrP, elemsOf, readCells, lenP, lenAt, resultsP, resultP, oneOr, reduceCtorEq, reduceIte, Nat.reduceEqDiff, Nat.reduceAdd, Nat.zero_add, Nat.reduceMul, Nat.reduceLT, Nat.reduceLeDiff, Int.reduceLT, Int.reduceNeg, Int.reduceLE, appendP, appendAt, letGo, setLoc, locVal, Int.reduceToNat, boxCells, und, TG, SE, hlen, hge]
theorem op_R04_quoted (s : List UInt8) (hs : s.length ≤ 40000) (bx) : callOp CC (callL CC) 43 [.str s, .int .i64 0] bx = some (.ret (quotedV (quotedR s)), bx) := callOp_of rfl (by simp only [SA, Bool.and_true]) (call_R04_quoted s hs) (by cases quotedR s <;> rfl)
theorem call_R04_Unquote (s : List UInt8) (hs : s.length ≤ 40000) : callL CC 36 [.str s] [] = some (.ret (.tup [.str (unq s).1, .int .i64 (unq s).2]), []) := by
  rw [callL_enter (fn := Try.f36) (c := Try.f36.body.getD .skip) rfl rfl fat_R04_Unquote rfl ok_R04_Unquote (Nat.le_of_ble_eq_true rfl)]
  have hlen := len_str s
  have hq := op_R04_quoted s hs
  rw [← unqR_eq]
  unfold unqR
  generalize quotedR s = q at *
  cases q with
  | none =>
    have hm : (-1 : Int) < 0 := by decide
    unfold quotedV at hq
    obtain ⟨ev, eo, so, co, ⟨hev, hco⟩, R⟩ := RULES CC; rw [← hev]
    rw [← hco] at hq
    simp only [fpart, part', Try.f36, Option.getD]
    simp (maxSteps := 5000000) only [SA, SB, SD, R, guardAt, binP, intP, indexAddrP, elemsOf, readCells, lenP, lenAt, resultsP, resultP, oneOr, reduceCtorEq, reduceIte, Nat.reduceEqDiff, Nat.reduceAdd, Nat.zero_add, Nat.reduceMul, Nat.reduceLT, Nat.reduceLeDiff, Int.reduceLT, Int.reduceNeg, Int.reduceLE, appendP, appendAt, letGo, setLoc, locVal, Int.reduceToNat, boxCells, und, TG, SE, hlen, hq, hm]
  | some x =>
    obtain ⟨t, k⟩ := x
    unfold quotedV at hq
    simp only at hq ⊢
    have hqt := len_str t
    have hk0 : ¬ (k : Int) < 0 := by omega
    by_cases c2 : k = s.length
    · have c2' : ((k : Int) != (s.length : Int)) = false := by simp [c2]
      rw [if_neg (fun h => h c2)]
      by_cases c3 : t.length > 60
      · have c3' : (t.length : Int) > 60 := by omega
        rw [if_pos c3]
        obtain ⟨ev, eo, so, co, ⟨hev, hco⟩, R⟩ := RULES CC; rw [← hev]
        rw [← hco] at hq
        simp only [fpart, part', Try.f36, Option.getD]
        simp (maxSteps := 5000000) only [SA, SB, SD, R, guardAt, binP, intP, indexAddrP, elemsOf, readCells, lenP, lenAt, resultsP, resultP, oneOr, reduceCtorEq, reduceIte, Nat.reduceEqDiff, Nat.reduceAdd, Nat.zero_add, Nat.reduceMul, Nat.reduceLT, Nat.reduceLeDiff, Int.reduceLT, Int.reduceNeg, Int.reduceLE, appendP, appendAt, letGo, setLoc, locVal, Int.reduceToNat, boxCells, und, TG, SE, hlen, hqt, hq, hk0, c2', c3']
      · have c3' : ¬ (t.length : Int) > 60 := by omega
        rw [if_neg c3]
        obtain ⟨ev, eo, so, co, ⟨hev, hco⟩, R⟩ := RULES CC; rw [← hev]
        rw [← hco] at hq
        simp only [fpart, part', Try.f36, Option.getD]
        simp (maxSteps := 5000000) only [SA, SB, SD, R, guardAt, binP, intP, indexAddrP, elemsOf, readCells, lenP, lenAt, resultsP, resultP, oneOr, reduceCtorEq, reduceIte, Nat.reduceEqDiff, Nat.reduceAdd, Nat.zero_add, Nat.reduceMul, Nat.reduceLT, Nat.reduceLeDiff, Int.reduceLT, Int.reduceNeg, Int.reduceLE, appendP, appendAt, letGo, setLoc, locVal, Int.reduceToNat, boxCells, und, TG, SE, hlen, hqt, hq, hk0, c2', c3']
    · have c2' : ((k : Int) != (s.length : Int)) = true := by simp; omega
      rw [if_pos c2]
      obtain ⟨ev, eo, so, co, ⟨hev, hco⟩, R⟩ := RULES CC; rw [← hev]
      rw [← hco] at hq
      simp only [fpart, part', Try.f36, Option.getD]
      simp (maxSteps := 5000000) only [SA, SB, SD, R, guardAt, binP, intP, indexAddrP, elemsOf, readCells, lenP, lenAt, resultsP, resultP, oneOr, reduceCtorEq, reduceIte, Nat.reduceEqDiff, Nat.reduceAdd, Nat.zero_add, Nat.reduceMul, Nat.reduceLT, Nat.reduceLeDiff, Int.reduceLT, Int.reduceNeg, Int.reduceLE, appendP, appendAt, letGo, setLoc, locVal, Int.reduceToNat, boxCells, und, TG, SE, hlen, hqt, hq, hk0, c2']
theorem op_R04_Unquote (s : List UInt8) (hs : s.length ≤ 40000) (bx) : callOp CC (callL CC) 36 [.str s] bx = some (.ret (.tup [.str (unq s).1, .int .i64 (unq s).2]), bx) := callOp_of rfl (by simp only [SA, Bool.and_true]) (call_R04_Unquote s hs) rfl
end Go.HH
