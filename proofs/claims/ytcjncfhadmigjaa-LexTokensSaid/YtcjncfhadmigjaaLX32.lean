/-
  Tokens: the specification's words, numbers, strings, operators, blanks.
-/
import Derived.Test.YtcjncfhadmigjaaLX22
import Derived.Test.YtcjncfhadmigjaaLX25
namespace Go.HH
open Go Go.Proofs
set_option maxRecDepth 100000
set_option linter.unusedSimpArgs false
set_option linter.unusedVariables false
theorem ok_R27_Number : fnOK CC Try.f34 (Try.f34.body.getD .skip) = true := by kernel_rfl
theorem fat_R27_Number : CC.P.funcs[34]? = some Try.f34 := by kernel_rfl
theorem ok_R27_String : fnOK CC Try.f35 (Try.f35.body.getD .skip) = true := by kernel_rfl
theorem fat_R27_String : CC.P.funcs[35]? = some Try.f35 := by kernel_rfl
theorem ix_at' (s : List UInt8) (i : Nat) (h : i < s.length) : indexV CC 9 (.str s) (.int .i64 (i : Int)) = some (.int .u8 ((atL s i : Nat) : Int)) := by
  have hx : s[i]? = some s[i] := by simp
  rw [atL_get hx]
  exact ix_str s i _ hx
theorem call_R27_Word (s : List UInt8) (hs : s.length ≤ 900000) (i : Nat) (hi : i ≤ s.length) : callL CC 33 [.str s, .int .i64 (i : Int)] [] = some (.ret (.int .i64 (runL pt s i : Nat)), []) := by
  rw [callL_enter (fn := Try.f33) (c := Try.f33.body.getD .skip) rfl rfl fat_R27_Word rfl ok_R27_Word (Nat.le_of_ble_eq_true rfl)]
  have hloop := loop_R27_Word _ rfl s hs (s.length - i) i
  obtain ⟨ev, eo, so, co, ⟨hev, hco⟩, R⟩ := RULES CC; rw [← hev]
  rw [← hev] at hloop
  simp only [fpart, part', Try.f33, Option.getD] at hloop ⊢
  simp (maxSteps := 5000000) only [SA, SB, SD, R, guardAt, binP, intP, indexAddrP, elemsOf, readCells, lenP, lenAt, resultsP, resultP, oneOr, reduceCtorEq, reduceIte, Nat.reduceEqDiff, Nat.reduceAdd, Nat.zero_add, Nat.reduceMul, Nat.reduceLT, Nat.reduceLeDiff, Int.reduceLT, Int.reduceNeg, Int.reduceLE, appendP, appendAt, letGo, setLoc, locVal, Int.reduceToNat, boxCells, und, TG, SE]
  generalize hE : ev _ _ = r
  obtain ⟨e', he, g1⟩ := useLoop' hE (hloop _ (by omega) (by simp (maxSteps := 5000000) only [SA, SB, SD, R, guardAt, binP, intP, indexAddrP, elemsOf, readCells, lenP, lenAt, resultsP, resultP, oneOr, reduceCtorEq, reduceIte, Nat.reduceEqDiff, Nat.reduceAdd, Nat.zero_add, Nat.reduceMul, Nat.reduceLT, Nat.reduceLeDiff, Int.reduceLT, Int.reduceNeg, Int.reduceLE, appendP, appendAt, letGo, setLoc, locVal, Int.reduceToNat, boxCells, und]) (by simp (maxSteps := 5000000) only [SA, SB, SD, R, guardAt, binP, intP, indexAddrP, elemsOf, readCells, lenP, lenAt, resultsP, resultP, oneOr, reduceCtorEq, reduceIte, Nat.reduceEqDiff, Nat.reduceAdd, Nat.zero_add, Nat.reduceMul, Nat.reduceLT, Nat.reduceLeDiff, Int.reduceLT, Int.reduceNeg, Int.reduceLE, appendP, appendAt, letGo, setLoc, locVal, Int.reduceToNat, boxCells, und]))
  subst he
  simp (maxSteps := 5000000) only [SA, SB, SD, R, guardAt, binP, intP, indexAddrP, elemsOf, readCells, lenP, lenAt, resultsP, resultP, oneOr, reduceCtorEq, reduceIte, Nat.reduceEqDiff, Nat.reduceAdd, Nat.zero_add, Nat.reduceMul, Nat.reduceLT, Nat.reduceLeDiff, Int.reduceLT, Int.reduceNeg, Int.reduceLE, appendP, appendAt, letGo, setLoc, locVal, Int.reduceToNat, boxCells, und, TG, SE, g1]
theorem op_R27_Word (s : List UInt8) (hs : s.length ≤ 900000) (i : Nat) (hi : i ≤ s.length) (bx) : callOp CC (callL CC) 33 [.str s, .int .i64 (i : Int)] bx = some (.ret (.int .i64 (runL pt s i : Nat)), bx) := callOp_of rfl (by simp only [SA, Bool.and_true]) (call_R27_Word s hs i hi) rfl
/-- is the number of the digits from here on small enough? -/
def numB (s : List UInt8) (i n : Nat) (ok : Bool) : Bool := ok && (numR ((s.drop i).takeWhile fun c => dg c.toNat) n).isSome
theorem loop_R27_Number (L : Code) (hL : L = fpart Try.f34 [1,1,1,0,0]) (s : List UInt8) (hs : s.length ≤ 900000) : ∀ (k i n : Nat) (ok : Bool) (e : List PV), i + k = s.length → (ok = true → n ≤ 1099511627776) → getT e 0 = .str s → getT e 1 = .int .i64 i → getT e 6 = .int .i64 n → getT e 7 = .bool ok →
    ∃ e', evL CC L ⟨e, []⟩ = some (.exit 0, ⟨e', []⟩) ∧ getT e' 1 = .int .i64 (runL dg s i : Nat) ∧ getT e' 7 = .bool (numB s i n ok) := by
  intro k
  induction k with
  | zero =>
    intro i n ok e hk hn h0 h1 h6 h7
    rw [evL_at (fpart Try.f34 [1,1,1,0,0,0]) hL]
    have hr := runL_end (p := dg) (s := s) (i := i) (by omega)
    have hd := op_R27_Digit s i
    have ha : atL s i = 0 := by unfold atL; rw [List.getElem?_eq_none (by omega)]
    rw [ha, show dg 0 = false from rfl] at hd
    have hB : numB s i n ok = ok := by
      unfold numB
      rw [List.drop_eq_nil_of_le (by omega)]
      simp [numR]
    obtain ⟨ev, eo, so, co, ⟨hev, hco⟩, R⟩ := RULES CC; rw [← hev]
    rw [← hco] at hd
    simp only [fpart, part', Try.f34, Option.getD]
    simp (maxSteps := 5000000) only [SA, SB, SD, R, guardAt, binP, intP, indexAddrP, elemsOf, readCells, lenP, lenAt, resultsP, resultP, oneOr, reduceCtorEq, reduceIte, Nat.reduceEqDiff, Nat.reduceAdd, Nat.zero_add, Nat.reduceMul, Nat.reduceLT, Nat.reduceLeDiff, Int.reduceLT, Int.reduceNeg, Int.reduceLE, appendP, appendAt, letGo, setLoc, locVal, Int.reduceToNat, boxCells, und, TG, SE, h0, h1, h6, h7, hd]
    exact ⟨_, rfl, by simp (maxSteps := 5000000) only [SA, SB, SD, R, guardAt, binP, intP, indexAddrP, elemsOf, readCells, lenP, lenAt, resultsP, resultP, oneOr, reduceCtorEq, reduceIte, Nat.reduceEqDiff, Nat.reduceAdd, Nat.zero_add, Nat.reduceMul, Nat.reduceLT, Nat.reduceLeDiff, Int.reduceLT, Int.reduceNeg, Int.reduceLE, appendP, appendAt, letGo, setLoc, locVal, Int.reduceToNat, boxCells, und, h1, hr], by simp (maxSteps := 5000000) only [SA, SB, SD, R, guardAt, binP, intP, indexAddrP, elemsOf, readCells, lenP, lenAt, resultsP, resultP, oneOr, reduceCtorEq, reduceIte, Nat.reduceEqDiff, Nat.reduceAdd, Nat.zero_add, Nat.reduceMul, Nat.reduceLT, Nat.reduceLeDiff, Int.reduceLT, Int.reduceNeg, Int.reduceLE, appendP, appendAt, letGo, setLoc, locVal, Int.reduceToNat, boxCells, und, h7, hB]⟩
  | succ k ih =>
    intro i n ok e hk hn h0 h1 h6 h7
    rw [evL_at (fpart Try.f34 [1,1,1,0,0,0]) hL]
    have hd := op_R27_Digit s i
    have hix := ix_at' s i (by omega)
    have h256 := atL_lt s i
    have hst := runL_at (p := dg) (s := s) (i := i) (by omega)
    have hx : s[i]? = some (s[i]'(by omega)) := by simp
    have hac := atL_get hx
    have hdr : s.drop i = (s[i]'(by omega)) :: s.drop (i + 1) := List.drop_eq_getElem_cons (by omega)
    generalize s[i]'(by omega) = c at *
    have hB : numB s i n ok = (ok && (numR (if dg (atL s i) then c :: (s.drop (i + 1)).takeWhile (fun c => dg c.toNat) else []) n).isSome) := by
      unfold numB
      rw [hdr, List.takeWhile_cons, hac]
    have hw := wrap_i64 (n := (i : Int) + 1) ⟨by omega, by omega⟩
    have cast1 : ((i + 1 : Nat) : Int) = (i : Int) + 1 := by omega
    rw [hst, hB]
    cases hdg : dg (atL s i) with
    | false =>
      rw [hdg] at hd
      simp only [Bool.false_eq_true, if_false, numR, Option.isSome_some, Bool.and_true]
      obtain ⟨ev, eo, so, co, ⟨hev, hco⟩, R⟩ := RULES CC; rw [← hev]
      rw [← hco] at hd
      simp only [fpart, part', Try.f34, Option.getD]
      simp (maxSteps := 5000000) only [SA, SB, SD, R, guardAt, binP, intP, indexAddrP, elemsOf, readCells, lenP, lenAt, resultsP, resultP, oneOr, reduceCtorEq, reduceIte, Nat.reduceEqDiff, Nat.reduceAdd, Nat.zero_add, Nat.reduceMul, Nat.reduceLT, Nat.reduceLeDiff, Int.reduceLT, Int.reduceNeg, Int.reduceLE, appendP, appendAt, letGo, setLoc, locVal, Int.reduceToNat, boxCells, und, TG, SE, h0, h1, h6, h7, hd]
      exact ⟨_, rfl, by simp (maxSteps := 5000000) only [SA, SB, SD, R, guardAt, binP, intP, indexAddrP, elemsOf, readCells, lenP, lenAt, resultsP, resultP, oneOr, reduceCtorEq, reduceIte, Nat.reduceEqDiff, Nat.reduceAdd, Nat.zero_add, Nat.reduceMul, Nat.reduceLT, Nat.reduceLeDiff, Int.reduceLT, Int.reduceNeg, Int.reduceLE, appendP, appendAt, letGo, setLoc, locVal, Int.reduceToNat, boxCells, und, h1], by simp (maxSteps := 5000000) only [SA, SB, SD, R, guardAt, binP, intP, indexAddrP, elemsOf, readCells, lenP, lenAt, resultsP, resultP, oneOr, reduceCtorEq, reduceIte, Nat.reduceEqDiff, Nat.reduceAdd, Nat.zero_add, Nat.reduceMul, Nat.reduceLT, Nat.reduceLeDiff, Int.reduceLT, Int.reduceNeg, Int.reduceLE, appendP, appendAt, letGo, setLoc, locVal, Int.reduceToNat, boxCells, und, h7]⟩
    | true =>
      rw [hdg] at hd
      have hrange : 48 ≤ atL s i ∧ atL s i ≤ 57 := by simpa [dg] using hdg
      simp only [if_true]
      cases ok with
      | false =>
        have key := fun e => ih (i + 1) n false e (by omega) (fun h => by cases h)
        rw [cast1] at key
        unfold numB at key
        simp only [Bool.false_and] at key ⊢
        obtain ⟨ev, eo, so, co, ⟨hev, hco⟩, R⟩ := RULES CC; rw [← hev]
        rw [← hco] at hd
        rw [← hev] at key
        simp only [fpart, part', Try.f34, Option.getD]
        simp (maxSteps := 5000000) only [SA, SB, SD, R, guardAt, binP, intP, indexAddrP, elemsOf, readCells, lenP, lenAt, resultsP, resultP, oneOr, reduceCtorEq, reduceIte, Nat.reduceEqDiff, Nat.reduceAdd, Nat.zero_add, Nat.reduceMul, Nat.reduceLT, Nat.reduceLeDiff, Int.reduceLT, Int.reduceNeg, Int.reduceLE, appendP, appendAt, letGo, setLoc, locVal, Int.reduceToNat, boxCells, und, TG, SE, h0, h1, h6, h7, hd, hw]
        exact key _ (by simp (maxSteps := 5000000) only [SA, SB, SD, R, guardAt, binP, intP, indexAddrP, elemsOf, readCells, lenP, lenAt, resultsP, resultP, oneOr, reduceCtorEq, reduceIte, Nat.reduceEqDiff, Nat.reduceAdd, Nat.zero_add, Nat.reduceMul, Nat.reduceLT, Nat.reduceLeDiff, Int.reduceLT, Int.reduceNeg, Int.reduceLE, appendP, appendAt, letGo, setLoc, locVal, Int.reduceToNat, boxCells, und, h0]) (by simp (maxSteps := 5000000) only [SA, SB, SD, R, guardAt, binP, intP, indexAddrP, elemsOf, readCells, lenP, lenAt, resultsP, resultP, oneOr, reduceCtorEq, reduceIte, Nat.reduceEqDiff, Nat.reduceAdd, Nat.zero_add, Nat.reduceMul, Nat.reduceLT, Nat.reduceLeDiff, Int.reduceLT, Int.reduceNeg, Int.reduceLE, appendP, appendAt, letGo, setLoc, locVal, Int.reduceToNat, boxCells, und]) (by simp (maxSteps := 5000000) only [SA, SB, SD, R, guardAt, binP, intP, indexAddrP, elemsOf, readCells, lenP, lenAt, resultsP, resultP, oneOr, reduceCtorEq, reduceIte, Nat.reduceEqDiff, Nat.reduceAdd, Nat.zero_add, Nat.reduceMul, Nat.reduceLT, Nat.reduceLeDiff, Int.reduceLT, Int.reduceNeg, Int.reduceLE, appendP, appendAt, letGo, setLoc, locVal, Int.reduceToNat, boxCells, und, h6]) (by simp (maxSteps := 5000000) only [SA, SB, SD, R, guardAt, binP, intP, indexAddrP, elemsOf, readCells, lenP, lenAt, resultsP, resultP, oneOr, reduceCtorEq, reduceIte, Nat.reduceEqDiff, Nat.reduceAdd, Nat.zero_add, Nat.reduceMul, Nat.reduceLT, Nat.reduceLeDiff, Int.reduceLT, Int.reduceNeg, Int.reduceLE, appendP, appendAt, letGo, setLoc, locVal, Int.reduceToNat, boxCells, und, h7])
      | true =>
        have hn := hn rfl
        have v1 := wrap_i64 (n := 10 * (n : Int)) ⟨by omega, by omega⟩
        have v2 : IntKind.wrap .u8 (((atL s i : Nat) : Int) - 48) = ((atL s i : Nat) : Int) - 48 := by simp [IntKind.wrap, IntKind.bits, IntKind.signed]; omega
        have hcv := conv_u8_i (((atL s i : Nat) : Int) - 48) ⟨by omega, by omega⟩
        have v3 := wrap_i64 (n := 10 * (n : Int) + (((atL s i : Nat) : Int) - 48)) ⟨by omega, by omega⟩
        have cast2 : ((10 * n + (atL s i - 48) : Nat) : Int) = 10 * (n : Int) + (((atL s i : Nat) : Int) - 48) := by omega
        have hnr : numR (c :: (s.drop (i + 1)).takeWhile (fun c => dg c.toNat)) n = if 10 * n + (atL s i - 48) > 1099511627776 then none else numR ((s.drop (i + 1)).takeWhile (fun c => dg c.toNat)) (10 * n + (atL s i - 48)) := by rw [hac]; rfl
        rw [hnr]
        by_cases c1 : 10 * n + (atL s i - 48) > 1099511627776
        · have c1' : ¬ (10 * (n : Int) + (((atL s i : Nat) : Int) - 48) ≤ 1099511627776) := by omega
          rw [if_pos c1]
          have key := fun e => ih (i + 1) (10 * n + (atL s i - 48)) false e (by omega) (fun h => by cases h)
          rw [cast1, cast2] at key
          unfold numB at key
          simp only [Bool.false_and] at key
          have hz : (true && (none : Option Nat).isSome) = false := rfl
          rw [hz]
          obtain ⟨ev, eo, so, co, ⟨hev, hco⟩, R⟩ := RULES CC; rw [← hev]
          rw [← hco] at hd
          rw [← hev] at key
          simp only [fpart, part', Try.f34, Option.getD]
          simp (maxSteps := 5000000) only [SA, SB, SD, R, guardAt, binP, intP, indexAddrP, elemsOf, readCells, lenP, lenAt, resultsP, resultP, oneOr, reduceCtorEq, reduceIte, Nat.reduceEqDiff, Nat.reduceAdd, Nat.zero_add, Nat.reduceMul, Nat.reduceLT, Nat.reduceLeDiff, Int.reduceLT, Int.reduceNeg, Int.reduceLE, appendP, appendAt, letGo, setLoc, locVal, Int.reduceToNat, boxCells, und, TG, SE, h0, h1, h6, h7, hd, hw, hix, v1, v2, v3, hcv, c1']
          exact key _ (by simp (maxSteps := 5000000) only [SA, SB, SD, R, guardAt, binP, intP, indexAddrP, elemsOf, readCells, lenP, lenAt, resultsP, resultP, oneOr, reduceCtorEq, reduceIte, Nat.reduceEqDiff, Nat.reduceAdd, Nat.zero_add, Nat.reduceMul, Nat.reduceLT, Nat.reduceLeDiff, Int.reduceLT, Int.reduceNeg, Int.reduceLE, appendP, appendAt, letGo, setLoc, locVal, Int.reduceToNat, boxCells, und, h0]) (by simp (maxSteps := 5000000) only [SA, SB, SD, R, guardAt, binP, intP, indexAddrP, elemsOf, readCells, lenP, lenAt, resultsP, resultP, oneOr, reduceCtorEq, reduceIte, Nat.reduceEqDiff, Nat.reduceAdd, Nat.zero_add, Nat.reduceMul, Nat.reduceLT, Nat.reduceLeDiff, Int.reduceLT, Int.reduceNeg, Int.reduceLE, appendP, appendAt, letGo, setLoc, locVal, Int.reduceToNat, boxCells, und]) (by simp (maxSteps := 5000000) only [SA, SB, SD, R, guardAt, binP, intP, indexAddrP, elemsOf, readCells, lenP, lenAt, resultsP, resultP, oneOr, reduceCtorEq, reduceIte, Nat.reduceEqDiff, Nat.reduceAdd, Nat.zero_add, Nat.reduceMul, Nat.reduceLT, Nat.reduceLeDiff, Int.reduceLT, Int.reduceNeg, Int.reduceLE, appendP, appendAt, letGo, setLoc, locVal, Int.reduceToNat, boxCells, und]) (by simp (maxSteps := 5000000) only [SA, SB, SD, R, guardAt, binP, intP, indexAddrP, elemsOf, readCells, lenP, lenAt, resultsP, resultP, oneOr, reduceCtorEq, reduceIte, Nat.reduceEqDiff, Nat.reduceAdd, Nat.zero_add, Nat.reduceMul, Nat.reduceLT, Nat.reduceLeDiff, Int.reduceLT, Int.reduceNeg, Int.reduceLE, appendP, appendAt, letGo, setLoc, locVal, Int.reduceToNat, boxCells, und])
        · have c1' : (10 * (n : Int) + (((atL s i : Nat) : Int) - 48) ≤ 1099511627776) := by omega
          rw [if_neg c1]
          have key := fun e => ih (i + 1) (10 * n + (atL s i - 48)) true e (by omega) (fun _ => by omega)
          rw [cast1, cast2] at key
          unfold numB at key
          obtain ⟨ev, eo, so, co, ⟨hev, hco⟩, R⟩ := RULES CC; rw [← hev]
          rw [← hco] at hd
          rw [← hev] at key
          simp only [fpart, part', Try.f34, Option.getD]
          simp (maxSteps := 5000000) only [SA, SB, SD, R, guardAt, binP, intP, indexAddrP, elemsOf, readCells, lenP, lenAt, resultsP, resultP, oneOr, reduceCtorEq, reduceIte, Nat.reduceEqDiff, Nat.reduceAdd, Nat.zero_add, Nat.reduceMul, Nat.reduceLT, Nat.reduceLeDiff, Int.reduceLT, Int.reduceNeg, Int.reduceLE, appendP, appendAt, letGo, setLoc, locVal, Int.reduceToNat, boxCells, und, TG, SE, h0, h1, h6, h7, hd, hw, hix, v1, v2, v3, hcv, c1']
          exact key _ (by simp (maxSteps := 5000000) only [SA, SB, SD, R, guardAt, binP, intP, indexAddrP, elemsOf, readCells, lenP, lenAt, resultsP, resultP, oneOr, reduceCtorEq, reduceIte, Nat.reduceEqDiff, Nat.reduceAdd, Nat.zero_add, Nat.reduceMul, Nat.reduceLT, Nat.reduceLeDiff, Int.reduceLT, Int.reduceNeg, Int.reduceLE, appendP, appendAt, letGo, setLoc, locVal, Int.reduceToNat, boxCells, und, h0]) (by simp (maxSteps := 5000000) only [SA, SB, SD, R, guardAt, binP, intP, indexAddrP, elemsOf, readCells, lenP, lenAt, resultsP, resultP, oneOr, reduceCtorEq, reduceIte, Nat.reduceEqDiff, Nat.reduceAdd, Nat.zero_add, Nat.reduceMul, Nat.reduceLT, Nat.reduceLeDiff, Int.reduceLT, Int.reduceNeg, Int.reduceLE, appendP, appendAt, letGo, setLoc, locVal, Int.reduceToNat, boxCells, und]) (by simp (maxSteps := 5000000) only [SA, SB, SD, R, guardAt, binP, intP, indexAddrP, elemsOf, readCells, lenP, lenAt, resultsP, resultP, oneOr, reduceCtorEq, reduceIte, Nat.reduceEqDiff, Nat.reduceAdd, Nat.zero_add, Nat.reduceMul, Nat.reduceLT, Nat.reduceLeDiff, Int.reduceLT, Int.reduceNeg, Int.reduceLE, appendP, appendAt, letGo, setLoc, locVal, Int.reduceToNat, boxCells, und]) (by simp (maxSteps := 5000000) only [SA, SB, SD, R, guardAt, binP, intP, indexAddrP, elemsOf, readCells, lenP, lenAt, resultsP, resultP, oneOr, reduceCtorEq, reduceIte, Nat.reduceEqDiff, Nat.reduceAdd, Nat.zero_add, Nat.reduceMul, Nat.reduceLT, Nat.reduceLeDiff, Int.reduceLT, Int.reduceNeg, Int.reduceLE, appendP, appendAt, letGo, setLoc, locVal, Int.reduceToNat, boxCells, und])
theorem tw_take {α : Type} (p : α → Bool) : ∀ x : List α, x.take (x.takeWhile p).length = x.takeWhile p
  | [] => rfl
  | c :: x => by
    rw [List.takeWhile_cons]
    split
    · rw [List.length_cons, List.take_succ_cons, tw_take p x]
    · rfl
theorem numB_eq (s : List UInt8) (i : Nat) : numB s i 0 true = (numL s i).isSome := by
  unfold numB numL runL
  rw [Nat.add_sub_cancel_left, tw_take]
  cases numR ((s.drop i).takeWhile fun c => dg c.toNat) 0 <;> rfl
theorem call_R27_Number (s : List UInt8) (hs : s.length ≤ 900000) (i : Nat) (hi : i ≤ s.length) : callL CC 34 [.str s, .int .i64 (i : Int)] [] = some (.ret (.tup [.int .i64 (runL dg s i : Nat), .bool (numL s i).isSome]), []) := by
  rw [callL_enter (fn := Try.f34) (c := Try.f34.body.getD .skip) rfl rfl fat_R27_Number rfl ok_R27_Number (Nat.le_of_ble_eq_true rfl)]
  have hloop := fun e => loop_R27_Number _ rfl s hs (s.length - i) i 0 true e (by omega) (fun _ => by omega)
  rw [numB_eq] at hloop
  obtain ⟨ev, eo, so, co, ⟨hev, hco⟩, R⟩ := RULES CC; rw [← hev]
  rw [← hev] at hloop
  simp only [fpart, part', Try.f34, Option.getD] at hloop ⊢
  simp (maxSteps := 5000000) only [SA, SB, SD, R, guardAt, binP, intP, indexAddrP, elemsOf, readCells, lenP, lenAt, resultsP, resultP, oneOr, reduceCtorEq, reduceIte, Nat.reduceEqDiff, Nat.reduceAdd, Nat.zero_add, Nat.reduceMul, Nat.reduceLT, Nat.reduceLeDiff, Int.reduceLT, Int.reduceNeg, Int.reduceLE, appendP, appendAt, letGo, setLoc, locVal, Int.reduceToNat, boxCells, und, TG, SE]
  generalize hE : ev _ _ = r
  obtain ⟨e', he, g1, g7⟩ := useLoop' hE (hloop _ (by simp (maxSteps := 5000000) only [SA, SB, SD, R, guardAt, binP, intP, indexAddrP, elemsOf, readCells, lenP, lenAt, resultsP, resultP, oneOr, reduceCtorEq, reduceIte, Nat.reduceEqDiff, Nat.reduceAdd, Nat.zero_add, Nat.reduceMul, Nat.reduceLT, Nat.reduceLeDiff, Int.reduceLT, Int.reduceNeg, Int.reduceLE, appendP, appendAt, letGo, setLoc, locVal, Int.reduceToNat, boxCells, und]) (by simp (maxSteps := 5000000) only [SA, SB, SD, R, guardAt, binP, intP, indexAddrP, elemsOf, readCells, lenP, lenAt, resultsP, resultP, oneOr, reduceCtorEq, reduceIte, Nat.reduceEqDiff, Nat.reduceAdd, Nat.zero_add, Nat.reduceMul, Nat.reduceLT, Nat.reduceLeDiff, Int.reduceLT, Int.reduceNeg, Int.reduceLE, appendP, appendAt, letGo, setLoc, locVal, Int.reduceToNat, boxCells, und]) (by simp (maxSteps := 5000000) only [SA, SB, SD, R, guardAt, binP, intP, indexAddrP, elemsOf, readCells, lenP, lenAt, resultsP, resultP, oneOr, reduceCtorEq, reduceIte, Nat.reduceEqDiff, Nat.reduceAdd, Nat.zero_add, Nat.reduceMul, Nat.reduceLT, Nat.reduceLeDiff, Int.reduceLT, Int.reduceNeg, Int.reduceLE, appendP, appendAt, letGo, setLoc, locVal, Int.reduceToNat, boxCells, und]; rfl) (by simp (maxSteps := 5000000) only [SA, SB, SD, R, guardAt, binP, intP, indexAddrP, elemsOf, readCells, lenP, lenAt, resultsP, resultP, oneOr, reduceCtorEq, reduceIte, Nat.reduceEqDiff, Nat.reduceAdd, Nat.zero_add, Nat.reduceMul, Nat.reduceLT, Nat.reduceLeDiff, Int.reduceLT, Int.reduceNeg, Int.reduceLE, appendP, appendAt, letGo, setLoc, locVal, Int.reduceToNat, boxCells, und]))
  subst he
  simp (maxSteps := 5000000) only [SA, SB, SD, R, guardAt, binP, intP, indexAddrP, elemsOf, readCells, lenP, lenAt, resultsP, resultP, oneOr, reduceCtorEq, reduceIte, Nat.reduceEqDiff, Nat.reduceAdd, Nat.zero_add, Nat.reduceMul, Nat.reduceLT, Nat.reduceLeDiff, Int.reduceLT, Int.reduceNeg, Int.reduceLE, appendP, appendAt, letGo, setLoc, locVal, Int.reduceToNat, boxCells, und, TG, SE, g1, g7]
theorem op_R27_Number (s : List UInt8) (hs : s.length ≤ 900000) (i : Nat) (hi : i ≤ s.length) (bx) : callOp CC (callL CC) 34 [.str s, .int .i64 (i : Int)] bx = some (.ret (.tup [.int .i64 (runL dg s i : Nat), .bool (numL s i).isSome]), bx) := callOp_of rfl (by simp only [SA, Bool.and_true]) (call_R27_Number s hs i hi) rfl
/-- what the loop to the end of a string comes to -/
def PSt (s : List UInt8) (v : Nat) (r : Option (Ex × St)) : Prop := ∃ e', (r = some (.exit 0, ⟨e', []⟩) ∧ s.length ≤ v) ∨ (r = some (.ret, ⟨e', []⟩) ∧ v < s.length ∧ getT e' 4 = .int .i64 ((v + 1 : Nat) : Int))
theorem loop_R27_String (L : Code) (hL : L = fpart Try.f35 [1,1,0,0]) (s : List UInt8) (hs : s.length ≤ 900000) : ∀ (m i : Nat) (e : List PV), s.length - i < m → i ≤ s.length + 1 → getT e 0 = .str s → getT e 1 = .int .i64 i →
    PSt s (eQ s i) (evL CC L ⟨e, []⟩) := by
  intro m
  induction m with
  | zero => intro i e hm; omega
  | succ m ih =>
    intro i e hm hi h0 h1
    rw [evL_at (fpart Try.f35 [1,1,0,0,0]) hL, eQ_eq]
    have hlen := len_str s
    have w1 := wrap_i64 (n := (i : Int) + 1) ⟨by omega, by omega⟩
    have w2 := wrap_i64 (n := (i : Int) + 1 + 1) ⟨by omega, by omega⟩
    have k1 := fun e => ih (i + 1) e
    have k2 := fun e => ih (i + 2) e
    by_cases hlt : i < s.length
    · have hil : (i : Int) < (s.length : Int) := by omega
      have hix := ix_at' s i hlt
      by_cases c1 : atL s i = 34
      · have c1' : (((atL s i : Nat) : Int) == 34) = true := by rw [c1]; rfl
        rw [if_neg (fun h => h.2 c1)]
        obtain ⟨ev, eo, so, co, ⟨hev, hco⟩, R⟩ := RULES CC; rw [← hev]
        simp only [fpart, part', Try.f35, Option.getD]
        simp (maxSteps := 5000000) only [SA, SB, SD, R, guardAt, binP, intP, indexAddrP, elemsOf, readCells, lenP, lenAt, resultsP, resultP, oneOr, reduceCtorEq, reduceIte, Nat.reduceEqDiff, Nat.reduceAdd, Nat.zero_add, Nat.reduceMul, Nat.reduceLT, Nat.reduceLeDiff, Int.reduceLT, Int.reduceNeg, Int.reduceLE, appendP, appendAt, letGo, setLoc, locVal, Int.reduceToNat, boxCells, und, TG, SE, h0, h1, hlen, hil, hix, c1', w1]
        exact ⟨_, Or.inr ⟨rfl, hlt, by simp (maxSteps := 5000000) only [SA, SB, SD, R, guardAt, binP, intP, indexAddrP, elemsOf, readCells, lenP, lenAt, resultsP, resultP, oneOr, reduceCtorEq, reduceIte, Nat.reduceEqDiff, Nat.reduceAdd, Nat.zero_add, Nat.reduceMul, Nat.reduceLT, Nat.reduceLeDiff, Int.reduceLT, Int.reduceNeg, Int.reduceLE, appendP, appendAt, letGo, setLoc, locVal, Int.reduceToNat, boxCells, und]; rfl⟩⟩
      · have c1' : (((atL s i : Nat) : Int) == 34) = false := by simp; omega
        rw [if_pos ⟨hlt, c1⟩]
        by_cases c2 : atL s i = 92
        · have c2' : (((atL s i : Nat) : Int) == 92) = true := by rw [c2]; rfl
          rw [if_pos c2]
          have k2 := fun e => k2 e (by omega) (by omega)
          have cast2 : ((i + 2 : Nat) : Int) = (i : Int) + 1 + 1 := by omega
          rw [cast2] at k2
          obtain ⟨ev, eo, so, co, ⟨hev, hco⟩, R⟩ := RULES CC; rw [← hev]
          rw [← hev] at k2
          simp only [fpart, part', Try.f35, Option.getD]
          simp (maxSteps := 5000000) only [SA, SB, SD, R, guardAt, binP, intP, indexAddrP, elemsOf, readCells, lenP, lenAt, resultsP, resultP, oneOr, reduceCtorEq, reduceIte, Nat.reduceEqDiff, Nat.reduceAdd, Nat.zero_add, Nat.reduceMul, Nat.reduceLT, Nat.reduceLeDiff, Int.reduceLT, Int.reduceNeg, Int.reduceLE, appendP, appendAt, letGo, setLoc, locVal, Int.reduceToNat, boxCells, und, TG, SE, h0, h1, hlen, hil, hix, c1', c2', w1, w2]
          exact k2 _ (by simp (maxSteps := 5000000) only [SA, SB, SD, R, guardAt, binP, intP, indexAddrP, elemsOf, readCells, lenP, lenAt, resultsP, resultP, oneOr, reduceCtorEq, reduceIte, Nat.reduceEqDiff, Nat.reduceAdd, Nat.zero_add, Nat.reduceMul, Nat.reduceLT, Nat.reduceLeDiff, Int.reduceLT, Int.reduceNeg, Int.reduceLE, appendP, appendAt, letGo, setLoc, locVal, Int.reduceToNat, boxCells, und, h0]) (by simp (maxSteps := 5000000) only [SA, SB, SD, R, guardAt, binP, intP, indexAddrP, elemsOf, readCells, lenP, lenAt, resultsP, resultP, oneOr, reduceCtorEq, reduceIte, Nat.reduceEqDiff, Nat.reduceAdd, Nat.zero_add, Nat.reduceMul, Nat.reduceLT, Nat.reduceLeDiff, Int.reduceLT, Int.reduceNeg, Int.reduceLE, appendP, appendAt, letGo, setLoc, locVal, Int.reduceToNat, boxCells, und])
        · have c2' : (((atL s i : Nat) : Int) == 92) = false := by simp; omega
          rw [if_neg c2]
          have k1 := fun e => k1 e (by omega) (by omega)
          have cast1 : ((i + 1 : Nat) : Int) = (i : Int) + 1 := by omega
          rw [cast1] at k1
          obtain ⟨ev, eo, so, co, ⟨hev, hco⟩, R⟩ := RULES CC; rw [← hev]
          rw [← hev] at k1
          simp only [fpart, part', Try.f35, Option.getD]
          simp (maxSteps := 5000000) only [SA, SB, SD, R, guardAt, binP, intP, indexAddrP, elemsOf, readCells, lenP, lenAt, resultsP, resultP, oneOr, reduceCtorEq, reduceIte, Nat.reduceEqDiff, Nat.reduceAdd, Nat.zero_add, Nat.reduceMul, Nat.reduceLT, Nat.reduceLeDiff, Int.reduceLT, Int.reduceNeg, Int.reduceLE, appendP, appendAt, letGo, setLoc, locVal, Int.reduceToNat, boxCells, und, TG, SE, h0, h1, hlen, hil, hix, c1', c2', w1]
          exact k1 _ (by simp (maxSteps := 5000000) only [SA, SB, SD, R, guardAt, binP, intP, indexAddrP, elemsOf, readCells, lenP, lenAt, resultsP, resultP, oneOr, reduceCtorEq, reduceIte, Nat.reduceEqDiff, Nat.reduceAdd, Nat.zero_add, Nat.reduceMul, Nat.reduceLT, Nat.reduceLeDiff, Int.reduceLT, Int.reduceNeg, Int.reduceLE, appendP, appendAt, letGo, setLoc, locVal, Int.reduceToNat, boxCells, und, h0]) (by simp (maxSteps := 5000000) only [SA, SB, SD, R, guardAt, binP, intP, indexAddrP, elemsOf, readCells, lenP, lenAt, resultsP, resultP, oneOr, reduceCtorEq, reduceIte, Nat.reduceEqDiff, Nat.reduceAdd, Nat.zero_add, Nat.reduceMul, Nat.reduceLT, Nat.reduceLeDiff, Int.reduceLT, Int.reduceNeg, Int.reduceLE, appendP, appendAt, letGo, setLoc, locVal, Int.reduceToNat, boxCells, und])
    · have hil : ¬ (i : Int) < (s.length : Int) := by omega
      rw [if_neg (fun h => hlt h.1)]
      obtain ⟨ev, eo, so, co, ⟨hev, hco⟩, R⟩ := RULES CC; rw [← hev]
      simp only [fpart, part', Try.f35, Option.getD]
      simp (maxSteps := 5000000) only [SA, SB, SD, R, guardAt, binP, intP, indexAddrP, elemsOf, readCells, lenP, lenAt, resultsP, resultP, oneOr, reduceCtorEq, reduceIte, Nat.reduceEqDiff, Nat.reduceAdd, Nat.zero_add, Nat.reduceMul, Nat.reduceLT, Nat.reduceLeDiff, Int.reduceLT, Int.reduceNeg, Int.reduceLE, appendP, appendAt, letGo, setLoc, locVal, Int.reduceToNat, boxCells, und, TG, SE, h0, h1, hlen, hil]
      exact ⟨_, Or.inl ⟨rfl, by omega⟩⟩
/-- the offset behind a string, or -1 -/
def strE (s : List UInt8) (i : Nat) : Int := if eQ s (i + 1) < s.length then (eQ s (i + 1) : Int) + 1 else -1
theorem call_R27_String (s : List UInt8) (hs : s.length ≤ 900000) (i : Nat) (hi : i ≤ s.length) : callL CC 35 [.str s, .int .i64 (i : Int)] [] = some (.ret (.int .i64 (strE s i)), []) := by
  rw [callL_enter (fn := Try.f35) (c := Try.f35.body.getD .skip) rfl rfl fat_R27_String rfl ok_R27_String (Nat.le_of_ble_eq_true rfl)]
  have w1 := wrap_i64 (n := (i : Int) + 1) ⟨by omega, by omega⟩
  have hloop := fun e => loop_R27_String _ rfl s hs (s.length + 1) (i + 1) e (by omega) (by omega)
  have cast1 : ((i + 1 : Nat) : Int) = (i : Int) + 1 := by omega
  rw [cast1] at hloop
  unfold strE
  generalize eQ s (i + 1) = v at *
  obtain ⟨ev, eo, so, co, ⟨hev, hco⟩, R⟩ := RULES CC; rw [← hev]
  rw [← hev] at hloop
  simp only [fpart, part', Try.f35, Option.getD] at hloop ⊢
  simp (maxSteps := 5000000) only [SA, SB, SD, R, guardAt, binP, intP, indexAddrP, elemsOf, readCells, lenP, lenAt, resultsP, resultP, oneOr, reduceCtorEq, reduceIte, Nat.reduceEqDiff, Nat.reduceAdd, Nat.zero_add, Nat.reduceMul, Nat.reduceLT, Nat.reduceLeDiff, Int.reduceLT, Int.reduceNeg, Int.reduceLE, appendP, appendAt, letGo, setLoc, locVal, Int.reduceToNat, boxCells, und, TG, SE, w1]
  generalize hE : ev _ _ = r
  have hP : PSt s v r := by
    rw [← hE]
    exact hloop _ (by simp (maxSteps := 5000000) only [SA, SB, SD, R, guardAt, binP, intP, indexAddrP, elemsOf, readCells, lenP, lenAt, resultsP, resultP, oneOr, reduceCtorEq, reduceIte, Nat.reduceEqDiff, Nat.reduceAdd, Nat.zero_add, Nat.reduceMul, Nat.reduceLT, Nat.reduceLeDiff, Int.reduceLT, Int.reduceNeg, Int.reduceLE, appendP, appendAt, letGo, setLoc, locVal, Int.reduceToNat, boxCells, und]) (by simp (maxSteps := 5000000) only [SA, SB, SD, R, guardAt, binP, intP, indexAddrP, elemsOf, readCells, lenP, lenAt, resultsP, resultP, oneOr, reduceCtorEq, reduceIte, Nat.reduceEqDiff, Nat.reduceAdd, Nat.zero_add, Nat.reduceMul, Nat.reduceLT, Nat.reduceLeDiff, Int.reduceLT, Int.reduceNeg, Int.reduceLE, appendP, appendAt, letGo, setLoc, locVal, Int.reduceToNat, boxCells, und])
  obtain ⟨e', ⟨he, g1⟩ | ⟨he, g1, g4⟩⟩ := hP
  · subst he
    rw [if_neg (by omega)]
    simp (maxSteps := 5000000) only [SA, SB, SD, R, guardAt, binP, intP, indexAddrP, elemsOf, readCells, lenP, lenAt, resultsP, resultP, oneOr, reduceCtorEq, reduceIte, Nat.reduceEqDiff, Nat.reduceAdd, Nat.zero_add, Nat.reduceMul, Nat.reduceLT, Nat.reduceLeDiff, Int.reduceLT, Int.reduceNeg, Int.reduceLE, appendP, appendAt, letGo, setLoc, locVal, Int.reduceToNat, boxCells, und, TG, SE]
  · subst he
    rw [if_pos g1]
    have cv : ((v + 1 : Nat) : Int) = (v : Int) + 1 := by omega
    rw [cv] at g4
    simp (maxSteps := 5000000) only [SA, SB, SD, R, guardAt, binP, intP, indexAddrP, elemsOf, readCells, lenP, lenAt, resultsP, resultP, oneOr, reduceCtorEq, reduceIte, Nat.reduceEqDiff, Nat.reduceAdd, Nat.zero_add, Nat.reduceMul, Nat.reduceLT, Nat.reduceLeDiff, Int.reduceLT, Int.reduceNeg, Int.reduceLE, appendP, appendAt, letGo, setLoc, locVal, Int.reduceToNat, boxCells, und, TG, SE, g4]
theorem op_R27_String (s : List UInt8) (hs : s.length ≤ 900000) (i : Nat) (hi : i ≤ s.length) (bx) : callOp CC (callL CC) 35 [.str s, .int .i64 (i : Int)] bx = some (.ret (.int .i64 (strE s i)), bx) := callOp_of rfl (by simp only [SA, Bool.and_true]) (call_R27_String s hs i hi) rfl
end Go.HH
