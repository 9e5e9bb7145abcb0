/-
  Joined: LX33, LX34, LX35, LX36.
-/
import Derived.Test.YtcjncfhadmigjaaLX32
import Derived.Test.YtcjncfhadmigjaaLXJ1
namespace Go.HH
open Go Go.Proofs
set_option maxRecDepth 100000
set_option linter.unusedSimpArgs false
set_option linter.unusedVariables false
theorem ok_R27_Operator : fnOK CC Try.f37 (Try.f37.body.getD .skip) = true := by kernel_rfl
theorem fat_R27_Operator : CC.P.funcs[37]? = some Try.f37 := by kernel_rfl
theorem ok_R27_Skip : fnOK CC Try.f18 (Try.f18.body.getD .skip) = true := by kernel_rfl
theorem fat_R27_Skip : CC.P.funcs[18]? = some Try.f18 := by kernel_rfl
theorem ok_R27_Single : fnOK CC Try.f44 (Try.f44.body.getD .skip) = true := by kernel_rfl
theorem fat_R27_Single : CC.P.funcs[44]? = some Try.f44 := by kernel_rfl
/-- the operators of one byte -/
def opsL : List UInt8 := [35, 43, 45, 42, 40, 41, 123, 125, 91, 93, 44, 59, 58, 46, 60, 62, 61]
theorem op1_any : ∀ n : _root_.Fin 256, op1 n.val = opsL.any (fun b => b.toNat == n.val) := by decide +kernel
/-- what the search among them comes to -/
def PSg (v : Bool) (r : Option (Ex × St)) : Prop := ∃ e', (v = true ∧ r = some (.ret, ⟨e', []⟩) ∧ getT e' 2 = .bool true) ∨ (v = false ∧ r = some (.exit 0, ⟨e', []⟩))
theorem loop_R27_Single (L : Code) (hL : L = fpart Try.f44 [1,1,0,1,0]) (n : Nat) : ∀ (k i : Nat) (e : List PV), i + k = opsL.length → getT e 0 = .int .u8 (n : Int) → getT e 3 = .str opsL → getT e 4 = .int .i64 i →
    PSg ((opsL.drop i).any (fun b => b.toNat == n)) (evL CC L ⟨e, []⟩) := by
  intro k
  induction k with
  | zero =>
    intro i e hk h0 h3 h4
    rw [evL_at (fpart Try.f44 [1,1,0,1,0,0]) hL]
    have hlen := len_str opsL
    have hil : ¬ ((i : Int) < (opsL.length : Int)) := by omega
    rw [List.drop_eq_nil_of_le (by omega)]
    generalize opsL = s at *
    obtain ⟨ev, eo, so, co, ⟨hev, hco⟩, R⟩ := RULES CC; rw [← hev]
    simp only [fpart, part', Try.f44, Option.getD]
    simp (maxSteps := 5000000) only [SA, SB, SD, R, guardAt, binP, intP, indexAddrP, elemsOf, readCells, lenP, lenAt, resultsP, resultP, oneOr, reduceCtorEq, reduceIte, Nat.reduceEqDiff, Nat.reduceAdd, Nat.zero_add, Nat.reduceMul, Nat.reduceLT, Nat.reduceLeDiff, Int.reduceLT, Int.reduceNeg, Int.reduceLE, appendP, appendAt, letGo, setLoc, locVal, Int.reduceToNat, boxCells, und, TG, SE, h0, h3, h4, hlen, hil]
    exact ⟨_, .inr ⟨rfl, rfl⟩⟩
  | succ k ih =>
    intro i e hk h0 h3 h4
    rw [evL_at (fpart Try.f44 [1,1,0,1,0,0]) hL]
    have hlen := len_str opsL
    have hll : opsL.length = 17 := rfl
    have hil : ((i : Int) < (opsL.length : Int)) := by omega
    have hix := ix_at' opsL i (by omega)
    have w1 := wrap_i64 (n := (i : Int) + 1) ⟨by omega, by omega⟩
    have cast1 : ((i + 1 : Nat) : Int) = (i : Int) + 1 := by omega
    have key := fun e => ih (i + 1) e (by omega)
    rw [cast1] at key
    have hdr : opsL.drop i = (opsL[i]'(by omega)) :: opsL.drop (i + 1) := List.drop_eq_getElem_cons (by omega)
    have hx : opsL[i]? = some (opsL[i]'(by omega)) := by simp
    have hac := atL_get hx
    generalize opsL[i]'(by omega) = c at *
    rw [hdr, List.any_cons, ← hac]
    generalize (opsL.drop (i + 1)).any (fun b => b.toNat == n) = v at *
    generalize opsL = s at *
    by_cases c1 : atL s i = n
    · have c1' : (((atL s i : Nat) : Int) == (n : Int)) = true := by rw [c1]; simp
      have c1'' : (atL s i == n) = true := by rw [c1]; simp
      rw [c1'', Bool.true_or]
      obtain ⟨ev, eo, so, co, ⟨hev, hco⟩, R⟩ := RULES CC; rw [← hev]
      simp only [fpart, part', Try.f44, Option.getD]
      simp (maxSteps := 5000000) only [SA, SB, SD, R, guardAt, binP, intP, indexAddrP, elemsOf, readCells, lenP, lenAt, resultsP, resultP, oneOr, reduceCtorEq, reduceIte, Nat.reduceEqDiff, Nat.reduceAdd, Nat.zero_add, Nat.reduceMul, Nat.reduceLT, Nat.reduceLeDiff, Int.reduceLT, Int.reduceNeg, Int.reduceLE, appendP, appendAt, letGo, setLoc, locVal, Int.reduceToNat, boxCells, und, TG, SE, h0, h3, h4, hlen, hil, hix, c1']
      exact ⟨_, .inl ⟨rfl, rfl, by simp (maxSteps := 5000000) only [SA, SB, SD, R, guardAt, binP, intP, indexAddrP, elemsOf, readCells, lenP, lenAt, resultsP, resultP, oneOr, reduceCtorEq, reduceIte, Nat.reduceEqDiff, Nat.reduceAdd, Nat.zero_add, Nat.reduceMul, Nat.reduceLT, Nat.reduceLeDiff, Int.reduceLT, Int.reduceNeg, Int.reduceLE, appendP, appendAt, letGo, setLoc, locVal, Int.reduceToNat, boxCells, und]⟩⟩
    · have c1' : (((atL s i : Nat) : Int) == (n : Int)) = false := by rw [beq_eq_false_iff_ne]; omega
      have c1'' : (atL s i == n) = false := by rw [beq_eq_false_iff_ne]; exact c1
      rw [c1'', Bool.false_or]
      obtain ⟨ev, eo, so, co, ⟨hev, hco⟩, R⟩ := RULES CC; rw [← hev]
      rw [← hev] at key
      simp only [fpart, part', Try.f44, Option.getD]
      simp (maxSteps := 5000000) only [SA, SB, SD, R, guardAt, binP, intP, indexAddrP, elemsOf, readCells, lenP, lenAt, resultsP, resultP, oneOr, reduceCtorEq, reduceIte, Nat.reduceEqDiff, Nat.reduceAdd, Nat.zero_add, Nat.reduceMul, Nat.reduceLT, Nat.reduceLeDiff, Int.reduceLT, Int.reduceNeg, Int.reduceLE, appendP, appendAt, letGo, setLoc, locVal, Int.reduceToNat, boxCells, und, TG, SE, h0, h3, h4, hlen, hil, hix, c1', w1]
      exact key _ (by simp (maxSteps := 5000000) only [SA, SB, SD, R, guardAt, binP, intP, indexAddrP, elemsOf, readCells, lenP, lenAt, resultsP, resultP, oneOr, reduceCtorEq, reduceIte, Nat.reduceEqDiff, Nat.reduceAdd, Nat.zero_add, Nat.reduceMul, Nat.reduceLT, Nat.reduceLeDiff, Int.reduceLT, Int.reduceNeg, Int.reduceLE, appendP, appendAt, letGo, setLoc, locVal, Int.reduceToNat, boxCells, und, h0]) (by simp (maxSteps := 5000000) only [SA, SB, SD, R, guardAt, binP, intP, indexAddrP, elemsOf, readCells, lenP, lenAt, resultsP, resultP, oneOr, reduceCtorEq, reduceIte, Nat.reduceEqDiff, Nat.reduceAdd, Nat.zero_add, Nat.reduceMul, Nat.reduceLT, Nat.reduceLeDiff, Int.reduceLT, Int.reduceNeg, Int.reduceLE, appendP, appendAt, letGo, setLoc, locVal, Int.reduceToNat, boxCells, und, h3]) (by simp (maxSteps := 5000000) only [SA, SB, SD, R, guardAt, binP, intP, indexAddrP, elemsOf, readCells, lenP, lenAt, resultsP, resultP, oneOr, reduceCtorEq, reduceIte, Nat.reduceEqDiff, Nat.reduceAdd, Nat.zero_add, Nat.reduceMul, Nat.reduceLT, Nat.reduceLeDiff, Int.reduceLT, Int.reduceNeg, Int.reduceLE, appendP, appendAt, letGo, setLoc, locVal, Int.reduceToNat, boxCells, und])
theorem call_R27_Single (n : Nat) (hn : n < 256) : callL CC 44 [.int .u8 (n : Int)] [] = some (.ret (.bool (op1 n)), []) := by
  rw [callL_enter (fn := Try.f44) (c := Try.f44.body.getD .skip) rfl rfl fat_R27_Single rfl ok_R27_Single (Nat.le_of_ble_eq_true rfl)]
  have hloop := fun e => loop_R27_Single _ rfl n 17 0 e rfl
  rw [op1_any ⟨n, hn⟩]
  simp only
  rw [List.drop_zero] at hloop
  generalize opsL.any (fun b => b.toNat == n) = v at *
  obtain ⟨ev, eo, so, co, ⟨hev, hco⟩, R⟩ := RULES CC; rw [← hev]
  rw [← hev] at hloop
  simp only [fpart, part', Try.f44, Option.getD] at hloop ⊢
  simp (maxSteps := 5000000) only [SA, SB, SD, R, guardAt, binP, intP, indexAddrP, elemsOf, readCells, lenP, lenAt, resultsP, resultP, oneOr, reduceCtorEq, reduceIte, Nat.reduceEqDiff, Nat.reduceAdd, Nat.zero_add, Nat.reduceMul, Nat.reduceLT, Nat.reduceLeDiff, Int.reduceLT, Int.reduceNeg, Int.reduceLE, appendP, appendAt, letGo, setLoc, locVal, Int.reduceToNat, boxCells, und, TG, SE]
  generalize hE : ev _ _ = r
  have hP : PSg v r := by
    rw [← hE]
    exact hloop _ (by simp (maxSteps := 5000000) only [SA, SB, SD, R, guardAt, binP, intP, indexAddrP, elemsOf, readCells, lenP, lenAt, resultsP, resultP, oneOr, reduceCtorEq, reduceIte, Nat.reduceEqDiff, Nat.reduceAdd, Nat.zero_add, Nat.reduceMul, Nat.reduceLT, Nat.reduceLeDiff, Int.reduceLT, Int.reduceNeg, Int.reduceLE, appendP, appendAt, letGo, setLoc, locVal, Int.reduceToNat, boxCells, und]) (by simp (maxSteps := 5000000) only [SA, SB, SD, R, guardAt, binP, intP, indexAddrP, elemsOf, readCells, lenP, lenAt, resultsP, resultP, oneOr, reduceCtorEq, reduceIte, Nat.reduceEqDiff, Nat.reduceAdd, Nat.zero_add, Nat.reduceMul, Nat.reduceLT, Nat.reduceLeDiff, Int.reduceLT, Int.reduceNeg, Int.reduceLE, appendP, appendAt, letGo, setLoc, locVal, Int.reduceToNat, boxCells, und]; rfl) (by simp (maxSteps := 5000000) only [SA, SB, SD, R, guardAt, binP, intP, indexAddrP, elemsOf, readCells, lenP, lenAt, resultsP, resultP, oneOr, reduceCtorEq, reduceIte, Nat.reduceEqDiff, Nat.reduceAdd, Nat.zero_add, Nat.reduceMul, Nat.reduceLT, Nat.reduceLeDiff, Int.reduceLT, Int.reduceNeg, Int.reduceLE, appendP, appendAt, letGo, setLoc, locVal, Int.reduceToNat, boxCells, und]; rfl)
  obtain ⟨e', ⟨hv, he, g2⟩ | ⟨hv, he⟩⟩ := hP
  · subst he
    subst hv
    simp (maxSteps := 5000000) only [SA, SB, SD, R, guardAt, binP, intP, indexAddrP, elemsOf, readCells, lenP, lenAt, resultsP, resultP, oneOr, reduceCtorEq, reduceIte, Nat.reduceEqDiff, Nat.reduceAdd, Nat.zero_add, Nat.reduceMul, Nat.reduceLT, Nat.reduceLeDiff, Int.reduceLT, Int.reduceNeg, Int.reduceLE, appendP, appendAt, letGo, setLoc, locVal, Int.reduceToNat, boxCells, und, TG, SE, g2]
  · subst he
    subst hv
    simp (maxSteps := 5000000) only [SA, SB, SD, R, guardAt, binP, intP, indexAddrP, elemsOf, readCells, lenP, lenAt, resultsP, resultP, oneOr, reduceCtorEq, reduceIte, Nat.reduceEqDiff, Nat.reduceAdd, Nat.zero_add, Nat.reduceMul, Nat.reduceLT, Nat.reduceLeDiff, Int.reduceLT, Int.reduceNeg, Int.reduceLE, appendP, appendAt, letGo, setLoc, locVal, Int.reduceToNat, boxCells, und, TG, SE]
theorem op_R27_Single (n : Nat) (hn : n < 256) (bx) : callOp CC (callL CC) 44 [.int .u8 (n : Int)] bx = some (.ret (.bool (op1 n)), bx) := callOp_of rfl (by simp only [SA, Bool.and_true]) (call_R27_Single n hn) rfl
theorem op2_orF : ∀ n : _root_.Fin 256, op2 n.val = (n.val == 61 || n.val == 33 || n.val == 60 || n.val == 62) := by decide +kernel
theorem call_R27_Operator (s : List UInt8) (hs : s.length ≤ 900000) (i : Nat) (hi : i < s.length) : callL CC 37 [.str s, .int .i64 (i : Int)] [] = some (.ret (.int .i64 ((opLen s i : Nat) : Int)), []) := by
  rw [callL_enter (fn := Try.f37) (c := Try.f37.body.getD .skip) rfl rfl fat_R27_Operator rfl ok_R27_Operator (Nat.le_of_ble_eq_true rfl)]
  have hlen := len_str s
  have hix := ix_at' s i hi
  have h256 := atL_lt s i
  have w1 := wrap_i64 (n := (i : Int) + 1) ⟨by omega, by omega⟩
  have cast1 : ((i + 1 : Nat) : Int) = (i : Int) + 1 := by omega
  have hs1 := op_R27_Single (atL s i) h256
  have hor := op2_orF ⟨atL s i, h256⟩
  simp only at hor
  have fin : ∀ b : Bool, opLen s i = (if b then 1 else 0) → True := fun _ _ => trivial
  by_cases d1 : i + 1 < s.length
  · have d1' : (i : Int) + 1 < (s.length : Int) := by omega
    have hix1 := ix_at' s (i + 1) d1
    rw [cast1] at hix1
    unfold opLen
    by_cases d2 : atL s (i + 1) = 61
    · have d2' : (((atL s (i + 1) : Nat) : Int) == 61) = true := by rw [d2]; rfl
      by_cases e1 : atL s i = 61
      · have e1' : (((atL s i : Nat) : Int) == 61) = true := by rw [e1]; rfl
        rw [if_pos ⟨d2, by rw [hor, e1]; rfl⟩]
        generalize op1 (atL s i) = b1 at *
        obtain ⟨ev, eo, so, co, ⟨hev, hco⟩, R⟩ := RULES CC; rw [← hev]
        rw [← hco] at hs1
        simp only [fpart, part', Try.f37, Option.getD]
        simp (maxSteps := 5000000) only [SA, SB, SD, R, guardAt, binP, intP, indexAddrP, elemsOf, readCells, lenP, lenAt, resultsP, resultP, oneOr, reduceCtorEq, reduceIte, Nat.reduceEqDiff, Nat.reduceAdd, Nat.zero_add, Nat.reduceMul, Nat.reduceLT, Nat.reduceLeDiff, Int.reduceLT, Int.reduceNeg, Int.reduceLE, appendP, appendAt, letGo, setLoc, locVal, Int.reduceToNat, boxCells, und, TG, SE, hlen, hix, hs1, w1, d1', hix1, d2', e1']
        rfl
      · have e1' : (((atL s i : Nat) : Int) == 61) = false := by simp; omega
        by_cases e2 : atL s i = 33
        · have e2' : (((atL s i : Nat) : Int) == 33) = true := by rw [e2]; rfl
          rw [if_pos ⟨d2, by rw [hor, e2]; rfl⟩]
          generalize op1 (atL s i) = b1 at *
          obtain ⟨ev, eo, so, co, ⟨hev, hco⟩, R⟩ := RULES CC; rw [← hev]
          rw [← hco] at hs1
          simp only [fpart, part', Try.f37, Option.getD]
          simp (maxSteps := 5000000) only [SA, SB, SD, R, guardAt, binP, intP, indexAddrP, elemsOf, readCells, lenP, lenAt, resultsP, resultP, oneOr, reduceCtorEq, reduceIte, Nat.reduceEqDiff, Nat.reduceAdd, Nat.zero_add, Nat.reduceMul, Nat.reduceLT, Nat.reduceLeDiff, Int.reduceLT, Int.reduceNeg, Int.reduceLE, appendP, appendAt, letGo, setLoc, locVal, Int.reduceToNat, boxCells, und, TG, SE, hlen, hix, hs1, w1, d1', hix1, d2', e1', e2']
          rfl
        · have e2' : (((atL s i : Nat) : Int) == 33) = false := by simp; omega
          by_cases e3 : atL s i = 60
          · have e3' : (((atL s i : Nat) : Int) == 60) = true := by rw [e3]; rfl
            rw [if_pos ⟨d2, by rw [hor, e3]; rfl⟩]
            generalize op1 (atL s i) = b1 at *
            obtain ⟨ev, eo, so, co, ⟨hev, hco⟩, R⟩ := RULES CC; rw [← hev]
            rw [← hco] at hs1
            simp only [fpart, part', Try.f37, Option.getD]
            simp (maxSteps := 5000000) only [SA, SB, SD, R, guardAt, binP, intP, indexAddrP, elemsOf, readCells, lenP, lenAt, resultsP, resultP, oneOr, reduceCtorEq, reduceIte, Nat.reduceEqDiff, Nat.reduceAdd, Nat.zero_add, Nat.reduceMul, Nat.reduceLT, Nat.reduceLeDiff, Int.reduceLT, Int.reduceNeg, Int.reduceLE, appendP, appendAt, letGo, setLoc, locVal, Int.reduceToNat, boxCells, und, TG, SE, hlen, hix, hs1, w1, d1', hix1, d2', e1', e2', e3']
            rfl
          · have e3' : (((atL s i : Nat) : Int) == 60) = false := by simp; omega
            by_cases e4 : atL s i = 62
            · have e4' : (((atL s i : Nat) : Int) == 62) = true := by rw [e4]; rfl
              rw [if_pos ⟨d2, by rw [hor, e4]; rfl⟩]
              generalize op1 (atL s i) = b1 at *
              obtain ⟨ev, eo, so, co, ⟨hev, hco⟩, R⟩ := RULES CC; rw [← hev]
              rw [← hco] at hs1
              simp only [fpart, part', Try.f37, Option.getD]
              simp (maxSteps := 5000000) only [SA, SB, SD, R, guardAt, binP, intP, indexAddrP, elemsOf, readCells, lenP, lenAt, resultsP, resultP, oneOr, reduceCtorEq, reduceIte, Nat.reduceEqDiff, Nat.reduceAdd, Nat.zero_add, Nat.reduceMul, Nat.reduceLT, Nat.reduceLeDiff, Int.reduceLT, Int.reduceNeg, Int.reduceLE, appendP, appendAt, letGo, setLoc, locVal, Int.reduceToNat, boxCells, und, TG, SE, hlen, hix, hs1, w1, d1', hix1, d2', e1', e2', e3', e4']
              rfl
            · have e4' : (((atL s i : Nat) : Int) == 62) = false := by simp; omega
              have hof : op2 (atL s i) = false := by rw [hor]; simp [e1, e2, e3, e4]
              rw [if_neg (fun h => by rw [hof] at h; cases h.2)]
              cases hb : op1 (atL s i) with
              | true =>
                rw [hb] at hs1
                rw [if_pos rfl]
                obtain ⟨ev, eo, so, co, ⟨hev, hco⟩, R⟩ := RULES CC; rw [← hev]
                rw [← hco] at hs1
                simp only [fpart, part', Try.f37, Option.getD]
                simp (maxSteps := 5000000) only [SA, SB, SD, R, guardAt, binP, intP, indexAddrP, elemsOf, readCells, lenP, lenAt, resultsP, resultP, oneOr, reduceCtorEq, reduceIte, Nat.reduceEqDiff, Nat.reduceAdd, Nat.zero_add, Nat.reduceMul, Nat.reduceLT, Nat.reduceLeDiff, Int.reduceLT, Int.reduceNeg, Int.reduceLE, appendP, appendAt, letGo, setLoc, locVal, Int.reduceToNat, boxCells, und, TG, SE, hlen, hix, hs1, w1, d1', hix1, d2', e1', e2', e3', e4']
                rfl
              | false =>
                rw [hb] at hs1
                rw [if_neg (by simp)]
                obtain ⟨ev, eo, so, co, ⟨hev, hco⟩, R⟩ := RULES CC; rw [← hev]
                rw [← hco] at hs1
                simp only [fpart, part', Try.f37, Option.getD]
                simp (maxSteps := 5000000) only [SA, SB, SD, R, guardAt, binP, intP, indexAddrP, elemsOf, readCells, lenP, lenAt, resultsP, resultP, oneOr, reduceCtorEq, reduceIte, Nat.reduceEqDiff, Nat.reduceAdd, Nat.zero_add, Nat.reduceMul, Nat.reduceLT, Nat.reduceLeDiff, Int.reduceLT, Int.reduceNeg, Int.reduceLE, appendP, appendAt, letGo, setLoc, locVal, Int.reduceToNat, boxCells, und, TG, SE, hlen, hix, hs1, w1, d1', hix1, d2', e1', e2', e3', e4']
                rfl
    · have d2' : (((atL s (i + 1) : Nat) : Int) == 61) = false := by simp; omega
      rw [if_neg (fun h => d2 h.1)]
      cases hb : op1 (atL s i) with
      | true =>
        rw [hb] at hs1
        rw [if_pos rfl]
        obtain ⟨ev, eo, so, co, ⟨hev, hco⟩, R⟩ := RULES CC; rw [← hev]
        rw [← hco] at hs1
        simp only [fpart, part', Try.f37, Option.getD]
        simp (maxSteps := 5000000) only [SA, SB, SD, R, guardAt, binP, intP, indexAddrP, elemsOf, readCells, lenP, lenAt, resultsP, resultP, oneOr, reduceCtorEq, reduceIte, Nat.reduceEqDiff, Nat.reduceAdd, Nat.zero_add, Nat.reduceMul, Nat.reduceLT, Nat.reduceLeDiff, Int.reduceLT, Int.reduceNeg, Int.reduceLE, appendP, appendAt, letGo, setLoc, locVal, Int.reduceToNat, boxCells, und, TG, SE, hlen, hix, hs1, w1, d1', hix1, d2']
        rfl
      | false =>
        rw [hb] at hs1
        rw [if_neg (by simp)]
        obtain ⟨ev, eo, so, co, ⟨hev, hco⟩, R⟩ := RULES CC; rw [← hev]
        rw [← hco] at hs1
        simp only [fpart, part', Try.f37, Option.getD]
        simp (maxSteps := 5000000) only [SA, SB, SD, R, guardAt, binP, intP, indexAddrP, elemsOf, readCells, lenP, lenAt, resultsP, resultP, oneOr, reduceCtorEq, reduceIte, Nat.reduceEqDiff, Nat.reduceAdd, Nat.zero_add, Nat.reduceMul, Nat.reduceLT, Nat.reduceLeDiff, Int.reduceLT, Int.reduceNeg, Int.reduceLE, appendP, appendAt, letGo, setLoc, locVal, Int.reduceToNat, boxCells, und, TG, SE, hlen, hix, hs1, w1, d1', hix1, d2']
        rfl
  · have d1' : ¬ (i : Int) + 1 < (s.length : Int) := by omega
    have h0 : atL s (i + 1) = 0 := by unfold atL; rw [List.getElem?_eq_none (by omega)]
    unfold opLen
    rw [if_neg (fun h => by rw [h0] at h; cases h.1)]
    cases hb : op1 (atL s i) with
    | true =>
      rw [hb] at hs1
      rw [if_pos rfl]
      obtain ⟨ev, eo, so, co, ⟨hev, hco⟩, R⟩ := RULES CC; rw [← hev]
      rw [← hco] at hs1
      simp only [fpart, part', Try.f37, Option.getD]
      simp (maxSteps := 5000000) only [SA, SB, SD, R, guardAt, binP, intP, indexAddrP, elemsOf, readCells, lenP, lenAt, resultsP, resultP, oneOr, reduceCtorEq, reduceIte, Nat.reduceEqDiff, Nat.reduceAdd, Nat.zero_add, Nat.reduceMul, Nat.reduceLT, Nat.reduceLeDiff, Int.reduceLT, Int.reduceNeg, Int.reduceLE, appendP, appendAt, letGo, setLoc, locVal, Int.reduceToNat, boxCells, und, TG, SE, hlen, hix, hs1, w1, d1']
      rfl
    | false =>
      rw [hb] at hs1
      rw [if_neg (by simp)]
      obtain ⟨ev, eo, so, co, ⟨hev, hco⟩, R⟩ := RULES CC; rw [← hev]
      rw [← hco] at hs1
      simp only [fpart, part', Try.f37, Option.getD]
      simp (maxSteps := 5000000) only [SA, SB, SD, R, guardAt, binP, intP, indexAddrP, elemsOf, readCells, lenP, lenAt, resultsP, resultP, oneOr, reduceCtorEq, reduceIte, Nat.reduceEqDiff, Nat.reduceAdd, Nat.zero_add, Nat.reduceMul, Nat.reduceLT, Nat.reduceLeDiff, Int.reduceLT, Int.reduceNeg, Int.reduceLE, appendP, appendAt, letGo, setLoc, locVal, Int.reduceToNat, boxCells, und, TG, SE, hlen, hix, hs1, w1, d1']
      rfl
theorem op_R27_Operator (s : List UInt8) (hs : s.length ≤ 900000) (i : Nat) (hi : i < s.length) (bx) : callOp CC (callL CC) 37 [.str s, .int .i64 (i : Int)] bx = some (.ret (.int .i64 ((opLen s i : Nat) : Int)), bx) := callOp_of rfl (by simp only [SA, Bool.and_true]) (call_R27_Operator s hs i hi) rfl
theorem loop_R27_Skip (L : Code) (hL : L = fpart Try.f18 [1,1,0,0]) (s : List UInt8) (hs : s.length ≤ 900000) : ∀ (k i : Nat) (cm : Bool) (e : List PV), i + k = s.length → getT e 0 = .str s → getT e 1 = .int .i64 i → getT e 5 = .bool cm →
    PSk (skR s i cm) (evL CC L ⟨e, []⟩) := by
  intro k
  induction k with
  | zero =>
    intro i cm e hk h0 h1 h5
    rw [evL_at (fpart Try.f18 [1,1,0,0,0]) hL]
    have hlen := len_str s
    have hi : i = s.length := by omega
    subst hi
    have hil : ¬ ((s.length : Int) < (s.length : Int)) := by omega
    rw [skR_end]
    obtain ⟨ev, eo, so, co, ⟨hev, hco⟩, R⟩ := RULES CC; rw [← hev]
    simp only [fpart, part', Try.f18, Option.getD]
    simp (maxSteps := 5000000) only [SA, SB, SD, R, guardAt, binP, intP, indexAddrP, elemsOf, readCells, lenP, lenAt, resultsP, resultP, oneOr, reduceCtorEq, reduceIte, Nat.reduceEqDiff, Nat.reduceAdd, Nat.zero_add, Nat.reduceMul, Nat.reduceLT, Nat.reduceLeDiff, Int.reduceLT, Int.reduceNeg, Int.reduceLE, appendP, appendAt, letGo, setLoc, locVal, Int.reduceToNat, boxCells, und, TG, SE, h0, h1, hlen, hil]
    exact ⟨_, .inl ⟨rfl, by simp (maxSteps := 5000000) only [SA, SB, SD, R, guardAt, binP, intP, indexAddrP, elemsOf, readCells, lenP, lenAt, resultsP, resultP, oneOr, reduceCtorEq, reduceIte, Nat.reduceEqDiff, Nat.reduceAdd, Nat.zero_add, Nat.reduceMul, Nat.reduceLT, Nat.reduceLeDiff, Int.reduceLT, Int.reduceNeg, Int.reduceLE, appendP, appendAt, letGo, setLoc, locVal, Int.reduceToNat, boxCells, und, h1]⟩⟩
  | succ k ih =>
    intro i cm e hk h0 h1 h5
    rw [evL_at (fpart Try.f18 [1,1,0,0,0]) hL]
    have hlen := len_str s
    have hlt : i < s.length := by omega
    have hil : ((i : Int) < (s.length : Int)) := by omega
    have hix := ix_at' s i hlt
    have w1 := wrap_i64 (n := (i : Int) + 1) ⟨by omega, by omega⟩
    have cast1 : ((i + 1 : Nat) : Int) = (i : Int) + 1 := by omega
    have hd := op_R27_Digit s (i + 1)
    rw [cast1] at hd
    have key := fun cm e => ih (i + 1) cm e (by omega)
    rw [cast1] at key
    by_cases c10 : atL s i = 10
    · have c10' : (((atL s i : Nat) : Int) == 10) = true := by rw [c10]; rfl
      rw [skR_nl cm hlt c10]
      have key := key false
      obtain ⟨ev, eo, so, co, ⟨hev, hco⟩, R⟩ := RULES CC; rw [← hev]
      rw [← hev] at key
      simp only [fpart, part', Try.f18, Option.getD]
      simp (maxSteps := 5000000) only [SA, SB, SD, R, guardAt, binP, intP, indexAddrP, elemsOf, readCells, lenP, lenAt, resultsP, resultP, oneOr, reduceCtorEq, reduceIte, Nat.reduceEqDiff, Nat.reduceAdd, Nat.zero_add, Nat.reduceMul, Nat.reduceLT, Nat.reduceLeDiff, Int.reduceLT, Int.reduceNeg, Int.reduceLE, appendP, appendAt, letGo, setLoc, locVal, Int.reduceToNat, boxCells, und, TG, SE, unP, h0, h1, h5, hlen, hil, hix, w1, c10']
      exact key _ (by simp (maxSteps := 5000000) only [SA, SB, SD, R, guardAt, binP, intP, indexAddrP, elemsOf, readCells, lenP, lenAt, resultsP, resultP, oneOr, reduceCtorEq, reduceIte, Nat.reduceEqDiff, Nat.reduceAdd, Nat.zero_add, Nat.reduceMul, Nat.reduceLT, Nat.reduceLeDiff, Int.reduceLT, Int.reduceNeg, Int.reduceLE, appendP, appendAt, letGo, setLoc, locVal, Int.reduceToNat, boxCells, und, h0]) (by simp (maxSteps := 5000000) only [SA, SB, SD, R, guardAt, binP, intP, indexAddrP, elemsOf, readCells, lenP, lenAt, resultsP, resultP, oneOr, reduceCtorEq, reduceIte, Nat.reduceEqDiff, Nat.reduceAdd, Nat.zero_add, Nat.reduceMul, Nat.reduceLT, Nat.reduceLeDiff, Int.reduceLT, Int.reduceNeg, Int.reduceLE, appendP, appendAt, letGo, setLoc, locVal, Int.reduceToNat, boxCells, und]) (by simp (maxSteps := 5000000) only [SA, SB, SD, R, guardAt, binP, intP, indexAddrP, elemsOf, readCells, lenP, lenAt, resultsP, resultP, oneOr, reduceCtorEq, reduceIte, Nat.reduceEqDiff, Nat.reduceAdd, Nat.zero_add, Nat.reduceMul, Nat.reduceLT, Nat.reduceLeDiff, Int.reduceLT, Int.reduceNeg, Int.reduceLE, appendP, appendAt, letGo, setLoc, locVal, Int.reduceToNat, boxCells, und, h5])
    · have c10' : (((atL s i : Nat) : Int) == 10) = false := by simp; omega
      cases cm with
      | true =>
        rw [skR_c hlt c10]
        have key := key true
        obtain ⟨ev, eo, so, co, ⟨hev, hco⟩, R⟩ := RULES CC; rw [← hev]
        rw [← hev] at key
        simp only [fpart, part', Try.f18, Option.getD]
        simp (maxSteps := 5000000) only [SA, SB, SD, R, guardAt, binP, intP, indexAddrP, elemsOf, readCells, lenP, lenAt, resultsP, resultP, oneOr, reduceCtorEq, reduceIte, Nat.reduceEqDiff, Nat.reduceAdd, Nat.zero_add, Nat.reduceMul, Nat.reduceLT, Nat.reduceLeDiff, Int.reduceLT, Int.reduceNeg, Int.reduceLE, appendP, appendAt, letGo, setLoc, locVal, Int.reduceToNat, boxCells, und, TG, SE, unP, h0, h1, h5, hlen, hil, hix, w1, c10']
        exact key _ (by simp (maxSteps := 5000000) only [SA, SB, SD, R, guardAt, binP, intP, indexAddrP, elemsOf, readCells, lenP, lenAt, resultsP, resultP, oneOr, reduceCtorEq, reduceIte, Nat.reduceEqDiff, Nat.reduceAdd, Nat.zero_add, Nat.reduceMul, Nat.reduceLT, Nat.reduceLeDiff, Int.reduceLT, Int.reduceNeg, Int.reduceLE, appendP, appendAt, letGo, setLoc, locVal, Int.reduceToNat, boxCells, und, h0]) (by simp (maxSteps := 5000000) only [SA, SB, SD, R, guardAt, binP, intP, indexAddrP, elemsOf, readCells, lenP, lenAt, resultsP, resultP, oneOr, reduceCtorEq, reduceIte, Nat.reduceEqDiff, Nat.reduceAdd, Nat.zero_add, Nat.reduceMul, Nat.reduceLT, Nat.reduceLeDiff, Int.reduceLT, Int.reduceNeg, Int.reduceLE, appendP, appendAt, letGo, setLoc, locVal, Int.reduceToNat, boxCells, und]) (by simp (maxSteps := 5000000) only [SA, SB, SD, R, guardAt, binP, intP, indexAddrP, elemsOf, readCells, lenP, lenAt, resultsP, resultP, oneOr, reduceCtorEq, reduceIte, Nat.reduceEqDiff, Nat.reduceAdd, Nat.zero_add, Nat.reduceMul, Nat.reduceLT, Nat.reduceLeDiff, Int.reduceLT, Int.reduceNeg, Int.reduceLE, appendP, appendAt, letGo, setLoc, locVal, Int.reduceToNat, boxCells, und, h5])
      | false =>
        by_cases c35 : atL s i = 35
        · have c35' : (((atL s i : Nat) : Int) == 35) = true := by rw [c35]; rfl
          have c32' : (((atL s i : Nat) : Int) != 32) = true := by rw [c35]; rfl
          have c9' : (((atL s i : Nat) : Int) != 9) = true := by rw [c35]; rfl
          cases hdg : dg (atL s (i + 1)) with
          | false =>
            rw [hdg] at hd
            rw [skR_hash hlt c35 hdg]
            have key := key true
            obtain ⟨ev, eo, so, co, ⟨hev, hco⟩, R⟩ := RULES CC; rw [← hev]
            rw [← hev] at key
            rw [← hco] at hd
            simp only [fpart, part', Try.f18, Option.getD]
            simp (maxSteps := 5000000) only [SA, SB, SD, R, guardAt, binP, intP, indexAddrP, elemsOf, readCells, lenP, lenAt, resultsP, resultP, oneOr, reduceCtorEq, reduceIte, Nat.reduceEqDiff, Nat.reduceAdd, Nat.zero_add, Nat.reduceMul, Nat.reduceLT, Nat.reduceLeDiff, Int.reduceLT, Int.reduceNeg, Int.reduceLE, appendP, appendAt, letGo, setLoc, locVal, Int.reduceToNat, boxCells, und, TG, SE, unP, h0, h1, h5, hlen, hil, hix, w1, c10', c35', hd]
            exact key _ (by simp (maxSteps := 5000000) only [SA, SB, SD, R, guardAt, binP, intP, indexAddrP, elemsOf, readCells, lenP, lenAt, resultsP, resultP, oneOr, reduceCtorEq, reduceIte, Nat.reduceEqDiff, Nat.reduceAdd, Nat.zero_add, Nat.reduceMul, Nat.reduceLT, Nat.reduceLeDiff, Int.reduceLT, Int.reduceNeg, Int.reduceLE, appendP, appendAt, letGo, setLoc, locVal, Int.reduceToNat, boxCells, und, h0]) (by simp (maxSteps := 5000000) only [SA, SB, SD, R, guardAt, binP, intP, indexAddrP, elemsOf, readCells, lenP, lenAt, resultsP, resultP, oneOr, reduceCtorEq, reduceIte, Nat.reduceEqDiff, Nat.reduceAdd, Nat.zero_add, Nat.reduceMul, Nat.reduceLT, Nat.reduceLeDiff, Int.reduceLT, Int.reduceNeg, Int.reduceLE, appendP, appendAt, letGo, setLoc, locVal, Int.reduceToNat, boxCells, und]) (by simp (maxSteps := 5000000) only [SA, SB, SD, R, guardAt, binP, intP, indexAddrP, elemsOf, readCells, lenP, lenAt, resultsP, resultP, oneOr, reduceCtorEq, reduceIte, Nat.reduceEqDiff, Nat.reduceAdd, Nat.zero_add, Nat.reduceMul, Nat.reduceLT, Nat.reduceLeDiff, Int.reduceLT, Int.reduceNeg, Int.reduceLE, appendP, appendAt, letGo, setLoc, locVal, Int.reduceToNat, boxCells, und, h5])
          | true =>
            rw [hdg] at hd
            rw [skR_stop hlt (by omega) (by omega) c10 (fun h => by rw [hdg] at h; cases h.2)]
            obtain ⟨ev, eo, so, co, ⟨hev, hco⟩, R⟩ := RULES CC; rw [← hev]
            rw [← hco] at hd
            simp only [fpart, part', Try.f18, Option.getD]
            simp (maxSteps := 5000000) only [SA, SB, SD, R, guardAt, binP, intP, indexAddrP, elemsOf, readCells, lenP, lenAt, resultsP, resultP, oneOr, reduceCtorEq, reduceIte, Nat.reduceEqDiff, Nat.reduceAdd, Nat.zero_add, Nat.reduceMul, Nat.reduceLT, Nat.reduceLeDiff, Int.reduceLT, Int.reduceNeg, Int.reduceLE, appendP, appendAt, letGo, setLoc, locVal, Int.reduceToNat, boxCells, und, TG, SE, unP, h0, h1, h5, hlen, hil, hix, w1, c10', c35', hd, c32', c9']
            exact ⟨_, .inr ⟨rfl, by simp (maxSteps := 5000000) only [SA, SB, SD, R, guardAt, binP, intP, indexAddrP, elemsOf, readCells, lenP, lenAt, resultsP, resultP, oneOr, reduceCtorEq, reduceIte, Nat.reduceEqDiff, Nat.reduceAdd, Nat.zero_add, Nat.reduceMul, Nat.reduceLT, Nat.reduceLeDiff, Int.reduceLT, Int.reduceNeg, Int.reduceLE, appendP, appendAt, letGo, setLoc, locVal, Int.reduceToNat, boxCells, und]⟩⟩
        · have c35' : (((atL s i : Nat) : Int) == 35) = false := by simp; omega
          by_cases c32 : atL s i = 32
          · have c32' : (((atL s i : Nat) : Int) != 32) = false := by rw [c32]; rfl
            rw [skR_sp hlt (Or.inl c32)]
            have key := key false
            obtain ⟨ev, eo, so, co, ⟨hev, hco⟩, R⟩ := RULES CC; rw [← hev]
            rw [← hev] at key
            simp only [fpart, part', Try.f18, Option.getD]
            simp (maxSteps := 5000000) only [SA, SB, SD, R, guardAt, binP, intP, indexAddrP, elemsOf, readCells, lenP, lenAt, resultsP, resultP, oneOr, reduceCtorEq, reduceIte, Nat.reduceEqDiff, Nat.reduceAdd, Nat.zero_add, Nat.reduceMul, Nat.reduceLT, Nat.reduceLeDiff, Int.reduceLT, Int.reduceNeg, Int.reduceLE, appendP, appendAt, letGo, setLoc, locVal, Int.reduceToNat, boxCells, und, TG, SE, unP, h0, h1, h5, hlen, hil, hix, w1, c10', c35', c32']
            exact key _ (by simp (maxSteps := 5000000) only [SA, SB, SD, R, guardAt, binP, intP, indexAddrP, elemsOf, readCells, lenP, lenAt, resultsP, resultP, oneOr, reduceCtorEq, reduceIte, Nat.reduceEqDiff, Nat.reduceAdd, Nat.zero_add, Nat.reduceMul, Nat.reduceLT, Nat.reduceLeDiff, Int.reduceLT, Int.reduceNeg, Int.reduceLE, appendP, appendAt, letGo, setLoc, locVal, Int.reduceToNat, boxCells, und, h0]) (by simp (maxSteps := 5000000) only [SA, SB, SD, R, guardAt, binP, intP, indexAddrP, elemsOf, readCells, lenP, lenAt, resultsP, resultP, oneOr, reduceCtorEq, reduceIte, Nat.reduceEqDiff, Nat.reduceAdd, Nat.zero_add, Nat.reduceMul, Nat.reduceLT, Nat.reduceLeDiff, Int.reduceLT, Int.reduceNeg, Int.reduceLE, appendP, appendAt, letGo, setLoc, locVal, Int.reduceToNat, boxCells, und]) (by simp (maxSteps := 5000000) only [SA, SB, SD, R, guardAt, binP, intP, indexAddrP, elemsOf, readCells, lenP, lenAt, resultsP, resultP, oneOr, reduceCtorEq, reduceIte, Nat.reduceEqDiff, Nat.reduceAdd, Nat.zero_add, Nat.reduceMul, Nat.reduceLT, Nat.reduceLeDiff, Int.reduceLT, Int.reduceNeg, Int.reduceLE, appendP, appendAt, letGo, setLoc, locVal, Int.reduceToNat, boxCells, und, h5])
          · have c32' : (((atL s i : Nat) : Int) != 32) = true := by simp; omega
            by_cases c9 : atL s i = 9
            · have c9' : (((atL s i : Nat) : Int) != 9) = false := by rw [c9]; rfl
              rw [skR_sp hlt (Or.inr c9)]
              have key := key false
              obtain ⟨ev, eo, so, co, ⟨hev, hco⟩, R⟩ := RULES CC; rw [← hev]
              rw [← hev] at key
              simp only [fpart, part', Try.f18, Option.getD]
              simp (maxSteps := 5000000) only [SA, SB, SD, R, guardAt, binP, intP, indexAddrP, elemsOf, readCells, lenP, lenAt, resultsP, resultP, oneOr, reduceCtorEq, reduceIte, Nat.reduceEqDiff, Nat.reduceAdd, Nat.zero_add, Nat.reduceMul, Nat.reduceLT, Nat.reduceLeDiff, Int.reduceLT, Int.reduceNeg, Int.reduceLE, appendP, appendAt, letGo, setLoc, locVal, Int.reduceToNat, boxCells, und, TG, SE, unP, h0, h1, h5, hlen, hil, hix, w1, c10', c35', c32', c9']
              exact key _ (by simp (maxSteps := 5000000) only [SA, SB, SD, R, guardAt, binP, intP, indexAddrP, elemsOf, readCells, lenP, lenAt, resultsP, resultP, oneOr, reduceCtorEq, reduceIte, Nat.reduceEqDiff, Nat.reduceAdd, Nat.zero_add, Nat.reduceMul, Nat.reduceLT, Nat.reduceLeDiff, Int.reduceLT, Int.reduceNeg, Int.reduceLE, appendP, appendAt, letGo, setLoc, locVal, Int.reduceToNat, boxCells, und, h0]) (by simp (maxSteps := 5000000) only [SA, SB, SD, R, guardAt, binP, intP, indexAddrP, elemsOf, readCells, lenP, lenAt, resultsP, resultP, oneOr, reduceCtorEq, reduceIte, Nat.reduceEqDiff, Nat.reduceAdd, Nat.zero_add, Nat.reduceMul, Nat.reduceLT, Nat.reduceLeDiff, Int.reduceLT, Int.reduceNeg, Int.reduceLE, appendP, appendAt, letGo, setLoc, locVal, Int.reduceToNat, boxCells, und]) (by simp (maxSteps := 5000000) only [SA, SB, SD, R, guardAt, binP, intP, indexAddrP, elemsOf, readCells, lenP, lenAt, resultsP, resultP, oneOr, reduceCtorEq, reduceIte, Nat.reduceEqDiff, Nat.reduceAdd, Nat.zero_add, Nat.reduceMul, Nat.reduceLT, Nat.reduceLeDiff, Int.reduceLT, Int.reduceNeg, Int.reduceLE, appendP, appendAt, letGo, setLoc, locVal, Int.reduceToNat, boxCells, und, h5])
            · have c9' : (((atL s i : Nat) : Int) != 9) = true := by simp; omega
              rw [skR_stop hlt c32 c9 c10 (fun h => c35 h.1)]
              obtain ⟨ev, eo, so, co, ⟨hev, hco⟩, R⟩ := RULES CC; rw [← hev]
              simp only [fpart, part', Try.f18, Option.getD]
              simp (maxSteps := 5000000) only [SA, SB, SD, R, guardAt, binP, intP, indexAddrP, elemsOf, readCells, lenP, lenAt, resultsP, resultP, oneOr, reduceCtorEq, reduceIte, Nat.reduceEqDiff, Nat.reduceAdd, Nat.zero_add, Nat.reduceMul, Nat.reduceLT, Nat.reduceLeDiff, Int.reduceLT, Int.reduceNeg, Int.reduceLE, appendP, appendAt, letGo, setLoc, locVal, Int.reduceToNat, boxCells, und, TG, SE, unP, h0, h1, h5, hlen, hil, hix, w1, c10', c35', c32', c9']
              exact ⟨_, .inr ⟨rfl, by simp (maxSteps := 5000000) only [SA, SB, SD, R, guardAt, binP, intP, indexAddrP, elemsOf, readCells, lenP, lenAt, resultsP, resultP, oneOr, reduceCtorEq, reduceIte, Nat.reduceEqDiff, Nat.reduceAdd, Nat.zero_add, Nat.reduceMul, Nat.reduceLT, Nat.reduceLeDiff, Int.reduceLT, Int.reduceNeg, Int.reduceLE, appendP, appendAt, letGo, setLoc, locVal, Int.reduceToNat, boxCells, und]⟩⟩
theorem call_R27_Skip (s : List UInt8) (hs : s.length ≤ 900000) (i : Nat) (hi : i ≤ s.length) : callL CC 18 [.str s, .int .i64 (i : Int)] [] = some (.ret (.int .i64 (sk s i : Nat)), []) := by
  rw [callL_enter (fn := Try.f18) (c := Try.f18.body.getD .skip) rfl rfl fat_R27_Skip rfl ok_R27_Skip (Nat.le_of_ble_eq_true rfl)]
  have hloop := fun e => loop_R27_Skip _ rfl s hs (s.length - i) i false e (by omega)
  have e0 : skR s i false = sk s i := rfl
  rw [e0] at hloop
  generalize sk s i = v at *
  obtain ⟨ev, eo, so, co, ⟨hev, hco⟩, R⟩ := RULES CC; rw [← hev]
  rw [← hev] at hloop
  simp only [fpart, part', Try.f18, Option.getD] at hloop ⊢
  simp (maxSteps := 5000000) only [SA, SB, SD, R, guardAt, binP, intP, indexAddrP, elemsOf, readCells, lenP, lenAt, resultsP, resultP, oneOr, reduceCtorEq, reduceIte, Nat.reduceEqDiff, Nat.reduceAdd, Nat.zero_add, Nat.reduceMul, Nat.reduceLT, Nat.reduceLeDiff, Int.reduceLT, Int.reduceNeg, Int.reduceLE, appendP, appendAt, letGo, setLoc, locVal, Int.reduceToNat, boxCells, und, TG, SE]
  generalize hE : ev _ _ = r
  have hP : PSk v r := by
    rw [← hE]
    exact hloop _ (by simp (maxSteps := 5000000) only [SA, SB, SD, R, guardAt, binP, intP, indexAddrP, elemsOf, readCells, lenP, lenAt, resultsP, resultP, oneOr, reduceCtorEq, reduceIte, Nat.reduceEqDiff, Nat.reduceAdd, Nat.zero_add, Nat.reduceMul, Nat.reduceLT, Nat.reduceLeDiff, Int.reduceLT, Int.reduceNeg, Int.reduceLE, appendP, appendAt, letGo, setLoc, locVal, Int.reduceToNat, boxCells, und]) (by simp (maxSteps := 5000000) only [SA, SB, SD, R, guardAt, binP, intP, indexAddrP, elemsOf, readCells, lenP, lenAt, resultsP, resultP, oneOr, reduceCtorEq, reduceIte, Nat.reduceEqDiff, Nat.reduceAdd, Nat.zero_add, Nat.reduceMul, Nat.reduceLT, Nat.reduceLeDiff, Int.reduceLT, Int.reduceNeg, Int.reduceLE, appendP, appendAt, letGo, setLoc, locVal, Int.reduceToNat, boxCells, und]) (by simp (maxSteps := 5000000) only [SA, SB, SD, R, guardAt, binP, intP, indexAddrP, elemsOf, readCells, lenP, lenAt, resultsP, resultP, oneOr, reduceCtorEq, reduceIte, Nat.reduceEqDiff, Nat.reduceAdd, Nat.zero_add, Nat.reduceMul, Nat.reduceLT, Nat.reduceLeDiff, Int.reduceLT, Int.reduceNeg, Int.reduceLE, appendP, appendAt, letGo, setLoc, locVal, Int.reduceToNat, boxCells, und])
  obtain ⟨e', ⟨he, g1⟩ | ⟨he, g4⟩⟩ := hP
  · subst he
    simp (maxSteps := 5000000) only [SA, SB, SD, R, guardAt, binP, intP, indexAddrP, elemsOf, readCells, lenP, lenAt, resultsP, resultP, oneOr, reduceCtorEq, reduceIte, Nat.reduceEqDiff, Nat.reduceAdd, Nat.zero_add, Nat.reduceMul, Nat.reduceLT, Nat.reduceLeDiff, Int.reduceLT, Int.reduceNeg, Int.reduceLE, appendP, appendAt, letGo, setLoc, locVal, Int.reduceToNat, boxCells, und, TG, SE, g1]
  · subst he
    simp (maxSteps := 5000000) only [SA, SB, SD, R, guardAt, binP, intP, indexAddrP, elemsOf, readCells, lenP, lenAt, resultsP, resultP, oneOr, reduceCtorEq, reduceIte, Nat.reduceEqDiff, Nat.reduceAdd, Nat.zero_add, Nat.reduceMul, Nat.reduceLT, Nat.reduceLeDiff, Int.reduceLT, Int.reduceNeg, Int.reduceLE, appendP, appendAt, letGo, setLoc, locVal, Int.reduceToNat, boxCells, und, TG, SE, g4]
theorem op_R27_Skip (s : List UInt8) (hs : s.length ≤ 900000) (i : Nat) (hi : i ≤ s.length) (bx) : callOp CC (callL CC) 18 [.str s, .int .i64 (i : Int)] bx = some (.ret (.int .i64 (sk s i : Nat)), bx) := callOp_of rfl (by simp only [SA, Bool.and_true]) (call_R27_Skip s hs i hi) rfl
theorem ok_R27_Next : fnOK CC Try.f19 (Try.f19.body.getD .skip) = true := by kernel_rfl
theorem fat_R27_Next : CC.P.funcs[19]? = some Try.f19 := by kernel_rfl
theorem buildTk3 (a : Int) (b : List UInt8) (n : Int) : buildP CC 32 [(0, .int .i64 a), (1, .str b), (2, .int .i64 n)] = some (.agg [.int .i64 a, .str b, .int .i64 n]) := by
  have h := (by kernel_rfl : CC.P.underlying 32 = some (.struct ((match Try.prog.underlying 32 with | some (.struct f) => f | _ => #[]))))
  have hz : tZero CC 32 = some (.agg [.int .i64 0, .str [], .int .i64 0]) := by kernel_rfl
  have hp : ((match Try.prog.underlying 32 with | some (.struct f) => f | _ => #[]) : Array Field).toList.mapM (fun f => (tSize CC f.type).map fun s => (f.offset, s)) = some [(0, 1), (1, 1), (2, 1)] := by kernel_rfl
  unfold buildP
  rw [h, hz]
  simp only [hp]
  rfl
theorem buildTk0 : buildP CC 32 [] = some (.agg [.int .i64 0, .str [], .int .i64 0]) := by kernel_rfl
/-- what 'Next' returns -/
def nextV : Tk × Nat ⊕ Int → PV
  | .inl (t, k) => .tup [tkV t, .int .i64 (k : Int), .int .i64 0]
  | .inr c => .tup [.agg [.int .i64 0, .str [], .int .i64 0], .int .i64 0, .int .i64 c]
theorem call_R27_Next (s : List UInt8) (hs : s.length ≤ 40000) (i : Nat) (hi : i < s.length) : ∃ bx, callL CC 19 [.str s, .int .i64 (i : Int)] [] = some (.ret (nextV (oneL s i)), bx) := by
  rw [callL_enter (fn := Try.f19) (c := Try.f19.body.getD .skip) rfl rfl fat_R27_Next rfl ok_R27_Next (Nat.le_of_ble_eq_true rfl)]
  have hsm := op_R27_Small s i
  have hdg := op_R27_Digit s i
  have hwd := op_R27_Word s (by omega) i (by omega)
  have hnum := op_R27_Number s (by omega) i (by omega)
  have hstr := op_R27_String s (by omega) i (by omega)
  have hop := op_R27_Operator s (by omega) i hi
  have hix := ix_at' s i hi
  have hrl := runL_le (p := pt) (s := s) (i := i) (by omega)
  have hsl1 := sl_str s i (runL pt s i) (by omega) (by omega) (by omega)
  rw [Int.toNat_natCast, Int.toNat_natCast] at hsl1
  have hdl := runL_le (p := dg) (s := s) (i := i) (by omega)
  have hsl2 := sl_str s i (runL dg s i) (by omega) (by omega) (by omega)
  rw [Int.toNat_natCast, Int.toNat_natCast] at hsl2
  have hol := opLen_le hi
  have hsl3 := sl_str s i ((i + opLen s i : Nat) : Int) (by omega) (by omega) (by omega)
  rw [Int.toNat_natCast, Int.toNat_natCast] at hsl3
  have wo := wrap_i64 (n := ((i + opLen s i : Nat) : Int)) ⟨by omega, by omega⟩
  have casto : ((i + opLen s i : Nat) : Int) = (i : Int) + ((opLen s i : Nat) : Int) := by omega
  obtain ⟨tu, htu⟩ := TKu
  have hnl : ∀ k, numL s i = some k → k = runL dg s i := fun k h => by
    unfold numL at h
    obtain ⟨_, _, h2⟩ := Option.map_eq_some_iff.1 h
    exact h2.symm
  unfold oneL nextV
  simp only
  generalize runL pt s i = rp at *
  generalize runL dg s i = rd' at *
  cases hc1 : sm (atL s i) with
  | true =>
    rw [hc1] at hsm
    rw [if_pos rfl]
    unfold tkV
    generalize (s.take rp).drop i = tx at *
    obtain ⟨ev, eo, so, co, ⟨hev, hco⟩, R⟩ := RULES CC; rw [← hev]
    rw [← hco] at hsm hwd
    simp only [fpart, part', Try.f19, Option.getD]
    simp (maxSteps := 5000000) only [SA, SB, SD, R, guardAt, binP, intP, indexAddrP, elemsOf, readCells, lenP, lenAt, resultsP, resultP, oneOr, reduceCtorEq, reduceIte, Nat.reduceEqDiff, Nat.reduceAdd, Nat.zero_add, Nat.reduceMul, Nat.reduceLT, Nat.reduceLeDiff, Int.reduceLT, Int.reduceNeg, Int.reduceLE, appendP, appendAt, letGo, setLoc, locVal, Int.reduceToNat, boxCells, und, TG, SE, SC, unP, TKf, htu, buildTk3, buildTk0, loadR, loadP, storeR, storeK, storeCellsP, laid, lay, setBox, List.set_cons_zero, List.set_cons_succ, List.take_succ_cons, List.take_zero, List.drop_nil, Nat.le_refl, List.filter_nil, List.cons_append, hsm, hwd, hsl1]
    exact ⟨_, rfl⟩
  | false =>
    rw [hc1] at hsm
    rw [if_neg (by simp)]
    cases hc2 : dg (atL s i) with
    | true =>
      rw [hc2] at hdg
      rw [if_pos rfl]
      cases hn : numL s i with
      | some k =>
        rw [hn] at hnum
        obtain rfl := hnl k hn
        dsimp only
        unfold tkV
        simp only [Option.isSome_some] at hnum
        generalize (s.take k).drop i = tx at *
        obtain ⟨ev, eo, so, co, ⟨hev, hco⟩, R⟩ := RULES CC; rw [← hev]
        rw [← hco] at hsm hdg hnum
        simp only [fpart, part', Try.f19, Option.getD]
        simp (maxSteps := 5000000) only [SA, SB, SD, R, guardAt, binP, intP, indexAddrP, elemsOf, readCells, lenP, lenAt, resultsP, resultP, oneOr, reduceCtorEq, reduceIte, Nat.reduceEqDiff, Nat.reduceAdd, Nat.zero_add, Nat.reduceMul, Nat.reduceLT, Nat.reduceLeDiff, Int.reduceLT, Int.reduceNeg, Int.reduceLE, appendP, appendAt, letGo, setLoc, locVal, Int.reduceToNat, boxCells, und, TG, SE, SC, unP, TKf, htu, buildTk3, buildTk0, loadR, loadP, storeR, storeK, storeCellsP, laid, lay, setBox, List.set_cons_zero, List.set_cons_succ, List.take_succ_cons, List.take_zero, List.drop_nil, Nat.le_refl, List.filter_nil, List.cons_append, hsm, hdg, hnum, hsl2, Bool.not_true]
        exact ⟨_, rfl⟩
      | none =>
        rw [hn] at hnum
        dsimp only
        simp only [Option.isSome_none] at hnum
        obtain ⟨ev, eo, so, co, ⟨hev, hco⟩, R⟩ := RULES CC; rw [← hev]
        rw [← hco] at hsm hdg hnum
        simp only [fpart, part', Try.f19, Option.getD]
        simp (maxSteps := 5000000) only [SA, SB, SD, R, guardAt, binP, intP, indexAddrP, elemsOf, readCells, lenP, lenAt, resultsP, resultP, oneOr, reduceCtorEq, reduceIte, Nat.reduceEqDiff, Nat.reduceAdd, Nat.zero_add, Nat.reduceMul, Nat.reduceLT, Nat.reduceLeDiff, Int.reduceLT, Int.reduceNeg, Int.reduceLE, appendP, appendAt, letGo, setLoc, locVal, Int.reduceToNat, boxCells, und, TG, SE, SC, unP, TKf, htu, buildTk3, buildTk0, loadR, loadP, storeR, storeK, storeCellsP, laid, lay, setBox, List.set_cons_zero, List.set_cons_succ, List.take_succ_cons, List.take_zero, List.drop_nil, Nat.le_refl, List.filter_nil, List.cons_append, hsm, hdg, hnum, Bool.not_false]
        exact ⟨_, rfl⟩
    | false =>
      rw [hc2] at hdg
      rw [if_neg (by simp)]
      by_cases hc3 : atL s i = 34
      · rw [if_pos hc3]
        have h34 : (((atL s i : Nat) : Int) == 34) = true := by rw [hc3]; rfl
        have hse : strE s i = if eQ s (i + 1) < s.length then (eQ s (i + 1) : Int) + 1 else -1 := rfl
        have hsL : strL s i = (if s.length ≤ eQ s (i + 1) then none else if (unq ((s.take (eQ s (i + 1) + 1)).drop i)).2 ≠ 0 then none else some ((unq ((s.take (eQ s (i + 1) + 1)).drop i)).1, eQ s (i + 1) + 1)) := rfl
        have heg : i + 1 ≤ eQ s (i + 1) := endQ_ge _ _ _
        rw [hsL]
        by_cases d1 : eQ s (i + 1) < s.length
        · rw [if_pos d1] at hse
          rw [hse] at hstr
          rw [if_neg (by omega : ¬ s.length ≤ eQ s (i + 1))]
          have hsl := sl_str s i ((eQ s (i + 1) + 1 : Nat) : Int) (by omega) (by omega) (by omega)
          rw [Int.toNat_natCast, Int.toNat_natCast] at hsl
          have ce : ((eQ s (i + 1) + 1 : Nat) : Int) = (eQ s (i + 1) : Int) + 1 := by omega
          rw [ce] at hsl
          have hneg : ¬ ((eQ s (i + 1) : Int) + 1 < 0) := by omega
          have hu := op_R04_Unquote ((s.take (eQ s (i + 1) + 1)).drop i) (by rw [List.length_drop, List.length_take]; omega)
          generalize (s.take (eQ s (i + 1) + 1)).drop i = tx at *
          generalize unq tx = u at *
          obtain ⟨ut, ue⟩ := u
          simp only at hu ⊢
          by_cases d2 : ue = 0
          · rw [if_neg (fun h => h d2)]
            have d2' : (ue != 0) = false := by rw [d2]; rfl
            simp only [ce]
            unfold tkV
            obtain ⟨ev, eo, so, co, ⟨hev, hco⟩, R⟩ := RULES CC; rw [← hev]
            rw [← hco] at hsm hdg hstr hu
            simp only [fpart, part', Try.f19, Option.getD]
            simp (maxSteps := 5000000) only [SA, SB, SD, R, guardAt, binP, intP, indexAddrP, elemsOf, readCells, lenP, lenAt, resultsP, resultP, oneOr, reduceCtorEq, reduceIte, Nat.reduceEqDiff, Nat.reduceAdd, Nat.zero_add, Nat.reduceMul, Nat.reduceLT, Nat.reduceLeDiff, Int.reduceLT, Int.reduceNeg, Int.reduceLE, appendP, appendAt, letGo, setLoc, locVal, Int.reduceToNat, boxCells, und, TG, SE, SC, unP, TKf, htu, buildTk3, buildTk0, loadR, loadP, storeR, storeK, storeCellsP, laid, lay, setBox, List.set_cons_zero, List.set_cons_succ, List.take_succ_cons, List.take_zero, List.drop_nil, Nat.le_refl, List.filter_nil, List.cons_append, hsm, hdg, hix, h34, hstr, hneg, hsl, hu, d2']
            exact ⟨_, rfl⟩
          · rw [if_pos d2]
            have d2' : (ue != 0) = true := by rw [bne_iff_ne]; exact d2
            dsimp only
            obtain ⟨ev, eo, so, co, ⟨hev, hco⟩, R⟩ := RULES CC; rw [← hev]
            rw [← hco] at hsm hdg hstr hu
            simp only [fpart, part', Try.f19, Option.getD]
            simp (maxSteps := 5000000) only [SA, SB, SD, R, guardAt, binP, intP, indexAddrP, elemsOf, readCells, lenP, lenAt, resultsP, resultP, oneOr, reduceCtorEq, reduceIte, Nat.reduceEqDiff, Nat.reduceAdd, Nat.zero_add, Nat.reduceMul, Nat.reduceLT, Nat.reduceLeDiff, Int.reduceLT, Int.reduceNeg, Int.reduceLE, appendP, appendAt, letGo, setLoc, locVal, Int.reduceToNat, boxCells, und, TG, SE, SC, unP, TKf, htu, buildTk3, buildTk0, loadR, loadP, storeR, storeK, storeCellsP, laid, lay, setBox, List.set_cons_zero, List.set_cons_succ, List.take_succ_cons, List.take_zero, List.drop_nil, Nat.le_refl, List.filter_nil, List.cons_append, hsm, hdg, hix, h34, hstr, hneg, hsl, hu, d2']
            exact ⟨_, rfl⟩
        · rw [if_neg d1] at hse
          rw [hse] at hstr
          rw [if_pos (by omega : s.length ≤ eQ s (i + 1))]
          have hneg : ((-1 : Int) < 0) := by decide
          dsimp only
          obtain ⟨ev, eo, so, co, ⟨hev, hco⟩, R⟩ := RULES CC; rw [← hev]
          rw [← hco] at hsm hdg hstr
          simp only [fpart, part', Try.f19, Option.getD]
          simp (maxSteps := 5000000) only [SA, SB, SD, R, guardAt, binP, intP, indexAddrP, elemsOf, readCells, lenP, lenAt, resultsP, resultP, oneOr, reduceCtorEq, reduceIte, Nat.reduceEqDiff, Nat.reduceAdd, Nat.zero_add, Nat.reduceMul, Nat.reduceLT, Nat.reduceLeDiff, Int.reduceLT, Int.reduceNeg, Int.reduceLE, appendP, appendAt, letGo, setLoc, locVal, Int.reduceToNat, boxCells, und, TG, SE, SC, unP, TKf, htu, buildTk3, buildTk0, loadR, loadP, storeR, storeK, storeCellsP, laid, lay, setBox, List.set_cons_zero, List.set_cons_succ, List.take_succ_cons, List.take_zero, List.drop_nil, Nat.le_refl, List.filter_nil, List.cons_append, hsm, hdg, hix, h34, hstr, hneg]
          exact ⟨_, rfl⟩
      · rw [if_neg hc3]
        have h34 : (((atL s i : Nat) : Int) == 34) = false := by rw [beq_eq_false_iff_ne]; omega
        by_cases hc4 : opLen s i = 0
        · rw [if_pos hc4]
          have heq : (((opLen s i : Nat) : Int) == 0) = true := by rw [hc4]; rfl
          dsimp only
          obtain ⟨ev, eo, so, co, ⟨hev, hco⟩, R⟩ := RULES CC; rw [← hev]
          rw [← hco] at hsm hdg hop
          simp only [fpart, part', Try.f19, Option.getD]
          simp (maxSteps := 5000000) only [SA, SB, SD, R, guardAt, binP, intP, indexAddrP, elemsOf, readCells, lenP, lenAt, resultsP, resultP, oneOr, reduceCtorEq, reduceIte, Nat.reduceEqDiff, Nat.reduceAdd, Nat.zero_add, Nat.reduceMul, Nat.reduceLT, Nat.reduceLeDiff, Int.reduceLT, Int.reduceNeg, Int.reduceLE, appendP, appendAt, letGo, setLoc, locVal, Int.reduceToNat, boxCells, und, TG, SE, SC, unP, TKf, htu, buildTk3, buildTk0, loadR, loadP, storeR, storeK, storeCellsP, laid, lay, setBox, List.set_cons_zero, List.set_cons_succ, List.take_succ_cons, List.take_zero, List.drop_nil, Nat.le_refl, List.filter_nil, List.cons_append, hsm, hdg, hix, h34, hop, heq]
          exact ⟨_, rfl⟩
        · rw [if_neg hc4]
          dsimp only
          have heq : (((opLen s i : Nat) : Int) == 0) = false := by rw [beq_eq_false_iff_ne]; omega
          unfold tkV
          rw [casto] at hsl3 wo ⊢
          generalize (s.take (i + opLen s i)).drop i = tx at *
          obtain ⟨ev, eo, so, co, ⟨hev, hco⟩, R⟩ := RULES CC; rw [← hev]
          rw [← hco] at hsm hdg hop
          simp only [fpart, part', Try.f19, Option.getD]
          simp (maxSteps := 5000000) only [SA, SB, SD, R, guardAt, binP, intP, indexAddrP, elemsOf, readCells, lenP, lenAt, resultsP, resultP, oneOr, reduceCtorEq, reduceIte, Nat.reduceEqDiff, Nat.reduceAdd, Nat.zero_add, Nat.reduceMul, Nat.reduceLT, Nat.reduceLeDiff, Int.reduceLT, Int.reduceNeg, Int.reduceLE, appendP, appendAt, letGo, setLoc, locVal, Int.reduceToNat, boxCells, und, TG, SE, SC, unP, TKf, htu, buildTk3, buildTk0, loadR, loadP, storeR, storeK, storeCellsP, laid, lay, setBox, List.set_cons_zero, List.set_cons_succ, List.take_succ_cons, List.take_zero, List.drop_nil, Nat.le_refl, List.filter_nil, List.cons_append, hsm, hdg, hix, h34, hop, heq, hsl3, wo]
          exact ⟨_, rfl⟩
theorem op_R27_Next (s : List UInt8) (hs : s.length ≤ 40000) (i : Nat) (hi : i < s.length) (bx) : callOp CC (callL CC) 19 [.str s, .int .i64 (i : Int)] bx = some (.ret (nextV (oneL s i)), bx) := by
  obtain ⟨b, h⟩ := call_R27_Next s hs i hi
  refine callOp_of rfl (by simp only [SA, Bool.and_true]) h ?_
  cases oneL s i <;> rfl
theorem ok_R27_Tokens : fnOK CC Try.f11 (Try.f11.body.getD .skip) = true := by kernel_rfl
theorem fat_R27_Tokens : CC.P.funcs[11]? = some Try.f11 := by kernel_rfl
theorem loop_R27_Tokens (L : Code) (hL : L = fpart Try.f11 [1,1,1,1,0,0]) (s : List UInt8) (hs : s.length ≤ 40000) : ∀ (m i : Nat) (acc : List Tk) (e : List PV) (bx : List PBox), s.length - i < m → i ≤ s.length → acc.length ≤ 4000 → getT e 0 = .str s → getT e 5 = .osl 32 (tkVs acc) → getT e 6 = .int .i64 i →
    PTk s (tk s i acc) (evL CC L ⟨e, bx⟩) := by
  intro m
  induction m with
  | zero => intro i acc e bx hm; omega
  | succ m ih =>
    intro i acc e bx hm hi ha h0 h5 h6
    rw [evL_at (fpart Try.f11 [1,1,1,1,0,0,0]) hL, tk_eq acc hi]
    have hlen := len_str s
    obtain ⟨tu, htu⟩ := TKs
    have hgl : ∀ (bx : List PBox) (b : PBox), (bx ++ [b])[bx.length]? = some b := fun bx b => by simp
    have hgs : ∀ (bx : List PBox) (b c : PBox), (bx ++ [b]).set bx.length c = bx ++ [c] := fun bx b c => by simp [List.set_append]
    by_cases hlt : i < s.length
    · have hil : (i : Int) < (s.length : Int) := by omega
      rw [if_pos hlt]
      have hl0 : (tkVs acc).length = acc.length := by unfold tkVs; rw [List.length_map]
      by_cases c1 : acc.length = 4000
      · rw [if_pos c1]
        have hl : ((((tkVs acc).length : Nat) : Int) == 4000) = true := by rw [hl0, c1]; rfl
        generalize tkVs acc = xs at *
        obtain ⟨ev, eo, so, co, ⟨hev, hco⟩, R⟩ := RULES CC; rw [← hev]
        simp only [fpart, part', Try.f11, Option.getD]
        simp (maxSteps := 5000000) only [SA, SB, SD, R, guardAt, binP, intP, indexAddrP, elemsOf, readCells, lenP, lenAt, resultsP, resultP, oneOr, reduceCtorEq, reduceIte, Nat.reduceEqDiff, Nat.reduceAdd, Nat.zero_add, Nat.reduceMul, Nat.reduceLT, Nat.reduceLeDiff, Int.reduceLT, Int.reduceNeg, Int.reduceLE, appendP, appendAt, letGo, setLoc, locVal, Int.reduceToNat, boxCells, und, TG, SE, h0, h5, h6, hlen, hil, hl]
        exact ⟨_, _, Or.inr ⟨rfl, rfl, by simp (maxSteps := 5000000) only [SA, SB, SD, R, guardAt, binP, intP, indexAddrP, elemsOf, readCells, lenP, lenAt, resultsP, resultP, oneOr, reduceCtorEq, reduceIte, Nat.reduceEqDiff, Nat.reduceAdd, Nat.zero_add, Nat.reduceMul, Nat.reduceLT, Nat.reduceLeDiff, Int.reduceLT, Int.reduceNeg, Int.reduceLE, appendP, appendAt, letGo, setLoc, locVal, Int.reduceToNat, boxCells, und], by simp (maxSteps := 5000000) only [SA, SB, SD, R, guardAt, binP, intP, indexAddrP, elemsOf, readCells, lenP, lenAt, resultsP, resultP, oneOr, reduceCtorEq, reduceIte, Nat.reduceEqDiff, Nat.reduceAdd, Nat.zero_add, Nat.reduceMul, Nat.reduceLT, Nat.reduceLeDiff, Int.reduceLT, Int.reduceNeg, Int.reduceLE, appendP, appendAt, letGo, setLoc, locVal, Int.reduceToNat, boxCells, und], by simp (maxSteps := 5000000) only [SA, SB, SD, R, guardAt, binP, intP, indexAddrP, elemsOf, readCells, lenP, lenAt, resultsP, resultP, oneOr, reduceCtorEq, reduceIte, Nat.reduceEqDiff, Nat.reduceAdd, Nat.zero_add, Nat.reduceMul, Nat.reduceLT, Nat.reduceLeDiff, Int.reduceLT, Int.reduceNeg, Int.reduceLE, appendP, appendAt, letGo, setLoc, locVal, Int.reduceToNat, boxCells, und]⟩⟩
      · rw [if_neg c1]
        have hl : ((((tkVs acc).length : Nat) : Int) == 4000) = false := by rw [hl0, beq_eq_false_iff_ne]; omega
        have hone := op_R27_Next s hs i hlt
        unfold nextV at hone
        cases ho : oneL s i with
        | inr c =>
          rw [ho] at hone
          dsimp only at hone
          have hc0 : (c != 0) = true := by
            have := oneL_err ho
            rw [bne_iff_ne]; omega
          generalize tkVs acc = xs at *
          obtain ⟨ev, eo, so, co, ⟨hev, hco⟩, R⟩ := RULES CC; rw [← hev]
          rw [← hco] at hone
          simp only [fpart, part', Try.f11, Option.getD]
          simp (maxSteps := 5000000) only [SA, SB, SD, R, guardAt, binP, intP, indexAddrP, elemsOf, readCells, lenP, lenAt, resultsP, resultP, oneOr, reduceCtorEq, reduceIte, Nat.reduceEqDiff, Nat.reduceAdd, Nat.zero_add, Nat.reduceMul, Nat.reduceLT, Nat.reduceLeDiff, Int.reduceLT, Int.reduceNeg, Int.reduceLE, appendP, appendAt, letGo, setLoc, locVal, Int.reduceToNat, boxCells, und, TG, SE, SC, TKf, htu, h0, h5, h6, hlen, hil, hl, hone, hc0, loadR, loadP, storeR, storeK, storeCellsP, laid, lay, setBox, List.set_cons_zero, List.set_cons_succ, Nat.le_refl, List.take_succ_cons, List.take_zero, List.drop_nil, List.filter_nil, List.cons_append, extP, List.append_assoc, hgl, hgs]
          exact ⟨_, _, Or.inr ⟨rfl, rfl, by simp (maxSteps := 5000000) only [SA, SB, SD, R, guardAt, binP, intP, indexAddrP, elemsOf, readCells, lenP, lenAt, resultsP, resultP, oneOr, reduceCtorEq, reduceIte, Nat.reduceEqDiff, Nat.reduceAdd, Nat.zero_add, Nat.reduceMul, Nat.reduceLT, Nat.reduceLeDiff, Int.reduceLT, Int.reduceNeg, Int.reduceLE, appendP, appendAt, letGo, setLoc, locVal, Int.reduceToNat, boxCells, und], by simp (maxSteps := 5000000) only [SA, SB, SD, R, guardAt, binP, intP, indexAddrP, elemsOf, readCells, lenP, lenAt, resultsP, resultP, oneOr, reduceCtorEq, reduceIte, Nat.reduceEqDiff, Nat.reduceAdd, Nat.zero_add, Nat.reduceMul, Nat.reduceLT, Nat.reduceLeDiff, Int.reduceLT, Int.reduceNeg, Int.reduceLE, appendP, appendAt, letGo, setLoc, locVal, Int.reduceToNat, boxCells, und], by simp (maxSteps := 5000000) only [SA, SB, SD, R, guardAt, binP, intP, indexAddrP, elemsOf, readCells, lenP, lenAt, resultsP, resultP, oneOr, reduceCtorEq, reduceIte, Nat.reduceEqDiff, Nat.reduceAdd, Nat.zero_add, Nat.reduceMul, Nat.reduceLT, Nat.reduceLeDiff, Int.reduceLT, Int.reduceNeg, Int.reduceLE, appendP, appendAt, letGo, setLoc, locVal, Int.reduceToNat, boxCells, und]⟩⟩
        | inl x =>
          obtain ⟨t, k⟩ := x
          rw [ho] at hone
          dsimp only at hone ⊢
          have hbd := oneL_bd hlt ho
          have hsk := op_R27_Skip s (by omega) k hbd.2
          have hge := sk_le hbd.2
          have hih := fun e bx => ih (sk s k) (acc ++ [t]) e bx (by omega) hge.2 (by rw [List.length_append, List.length_singleton]; omega)
          have hc0 : ((0 : Int) != 0) = false := rfl
          have hbs := bsTk' t
          have hok := okTk t
          have hap : tkVs (acc ++ [t]) = tkVs acc ++ tkVs [t] := by simp only [tkVs, List.map_append]
          rw [hap] at hih
          have hl1 : (tkVs [t]).length = 1 := rfl
          have hc : (tkVs acc).length + (tkVs [t]).length ≤ 1000000 := by omega
          generalize tk s (sk s k) (acc ++ [t]) = v at *
          generalize tkVs acc = xs at *
          generalize tkVs [t] = ys at *
          generalize sk s k = k' at *
          unfold tkV at hone hbs
          obtain ⟨ev, eo, so, co, ⟨hev, hco⟩, R⟩ := RULES CC; rw [← hev]
          rw [← hco] at hone hsk
          rw [← hev] at hih
          simp only [fpart, part', Try.f11, Option.getD]
          simp (maxSteps := 5000000) only [SA, SB, SD, R, guardAt, binP, intP, indexAddrP, elemsOf, readCells, lenP, lenAt, resultsP, resultP, oneOr, reduceCtorEq, reduceIte, Nat.reduceEqDiff, Nat.reduceAdd, Nat.zero_add, Nat.reduceMul, Nat.reduceLT, Nat.reduceLeDiff, Int.reduceLT, Int.reduceNeg, Int.reduceLE, appendP, appendAt, letGo, setLoc, locVal, Int.reduceToNat, boxCells, und, TG, SE, SC, TKf, htu, h0, h5, h6, hlen, hil, hl, hone, hsk, hbs, apTk, hok, hc, hc0, loadR, loadP, storeR, storeK, storeCellsP, laid, lay, setBox, List.set_cons_zero, List.set_cons_succ, Nat.le_refl, List.take_succ_cons, List.take_zero, List.drop_nil, List.filter_nil, List.cons_append, extP, List.append_assoc, hgl, hgs]
          refine hih _ _ ?_ ?_ ?_
          · simp (maxSteps := 5000000) only [SA, SB, SD, R, guardAt, binP, intP, indexAddrP, elemsOf, readCells, lenP, lenAt, resultsP, resultP, oneOr, reduceCtorEq, reduceIte, Nat.reduceEqDiff, Nat.reduceAdd, Nat.zero_add, Nat.reduceMul, Nat.reduceLT, Nat.reduceLeDiff, Int.reduceLT, Int.reduceNeg, Int.reduceLE, appendP, appendAt, letGo, setLoc, locVal, Int.reduceToNat, boxCells, und, h0]
          · simp (maxSteps := 5000000) only [SA, SB, SD, R, guardAt, binP, intP, indexAddrP, elemsOf, readCells, lenP, lenAt, resultsP, resultP, oneOr, reduceCtorEq, reduceIte, Nat.reduceEqDiff, Nat.reduceAdd, Nat.zero_add, Nat.reduceMul, Nat.reduceLT, Nat.reduceLeDiff, Int.reduceLT, Int.reduceNeg, Int.reduceLE, appendP, appendAt, letGo, setLoc, locVal, Int.reduceToNat, boxCells, und]
          · simp (maxSteps := 5000000) only [SA, SB, SD, R, guardAt, binP, intP, indexAddrP, elemsOf, readCells, lenP, lenAt, resultsP, resultP, oneOr, reduceCtorEq, reduceIte, Nat.reduceEqDiff, Nat.reduceAdd, Nat.zero_add, Nat.reduceMul, Nat.reduceLT, Nat.reduceLeDiff, Int.reduceLT, Int.reduceNeg, Int.reduceLE, appendP, appendAt, letGo, setLoc, locVal, Int.reduceToNat, boxCells, und]
    · rw [if_neg hlt]
      have hil : ¬ (i : Int) < (s.length : Int) := by omega
      obtain ⟨ev, eo, so, co, ⟨hev, hco⟩, R⟩ := RULES CC; rw [← hev]
      simp only [fpart, part', Try.f11, Option.getD]
      simp (maxSteps := 5000000) only [SA, SB, SD, R, guardAt, binP, intP, indexAddrP, elemsOf, readCells, lenP, lenAt, resultsP, resultP, oneOr, reduceCtorEq, reduceIte, Nat.reduceEqDiff, Nat.reduceAdd, Nat.zero_add, Nat.reduceMul, Nat.reduceLT, Nat.reduceLeDiff, Int.reduceLT, Int.reduceNeg, Int.reduceLE, appendP, appendAt, letGo, setLoc, locVal, Int.reduceToNat, boxCells, und, TG, SE, h0, h5, h6, hlen, hil]
      exact ⟨_, _, Or.inl ⟨rfl, rfl, _, ha, rfl, by simp (maxSteps := 5000000) only [SA, SB, SD, R, guardAt, binP, intP, indexAddrP, elemsOf, readCells, lenP, lenAt, resultsP, resultP, oneOr, reduceCtorEq, reduceIte, Nat.reduceEqDiff, Nat.reduceAdd, Nat.zero_add, Nat.reduceMul, Nat.reduceLT, Nat.reduceLeDiff, Int.reduceLT, Int.reduceNeg, Int.reduceLE, appendP, appendAt, letGo, setLoc, locVal, Int.reduceToNat, boxCells, und, h5], by simp (maxSteps := 5000000) only [SA, SB, SD, R, guardAt, binP, intP, indexAddrP, elemsOf, readCells, lenP, lenAt, resultsP, resultP, oneOr, reduceCtorEq, reduceIte, Nat.reduceEqDiff, Nat.reduceAdd, Nat.zero_add, Nat.reduceMul, Nat.reduceLT, Nat.reduceLeDiff, Int.reduceLT, Int.reduceNeg, Int.reduceLE, appendP, appendAt, letGo, setLoc, locVal, Int.reduceToNat, boxCells, und, h0]⟩⟩
theorem call_R27_Tokens (s : List UInt8) (hs : s.length ≤ 40000) : ∃ bx, callL CC 11 [.str s] [] = some (.ret (.tup [.sl (tkVs (toks s).1), .int .i64 ((toks s).2.1 : Nat), .int .i64 (toks s).2.2]), bx) := by
  rw [callL_enter (fn := Try.f11) (c := Try.f11.body.getD .skip) rfl rfl fat_R27_Tokens rfl ok_R27_Tokens (Nat.le_of_ble_eq_true rfl)]
  have hlen := len_str s
  have hsk := op_R27_Skip s (by omega) 0 (by omega)
  have hge := sk_le (s := s) (i := 0) (by omega)
  have hloop := loop_R27_Tokens _ rfl s hs (s.length + 1) (sk s 0) []
  have hbs : buildSliceP CC 23 1 [(0, .agg [.int .i64 0, .str [], .int .i64 (s.length : Int)])] = some (.osl 32 (tkVs [(0, [], s.length)])) := bsTk' (0, [], s.length)
  have hok := okTk (0, [], s.length)
  have hb := buildTk2 (s.length : Int)
  have cast0 : ((0 : Nat) : Int) = 0 := rfl
  rw [cast0] at hsk
  have e1 : toks s = if 20000 < s.length then ([], 0, 3) else tk s (sk s 0) [] := rfl
  rw [e1]
  by_cases c1 : 20000 < s.length
  · rw [if_pos c1]
    have c1' : (s.length : Int) > 20000 := by omega
    obtain ⟨ev, eo, so, co, ⟨hev, hco⟩, R⟩ := RULES CC; rw [← hev]
    simp only [fpart, part', Try.f11, Option.getD]
    simp (maxSteps := 5000000) only [SA, SB, SD, R, guardAt, binP, intP, indexAddrP, elemsOf, readCells, lenP, lenAt, resultsP, resultP, oneOr, reduceCtorEq, reduceIte, Nat.reduceEqDiff, Nat.reduceAdd, Nat.zero_add, Nat.reduceMul, Nat.reduceLT, Nat.reduceLeDiff, Int.reduceLT, Int.reduceNeg, Int.reduceLE, appendP, appendAt, letGo, setLoc, locVal, Int.reduceToNat, boxCells, und, TG, SE, hlen, c1']
    exact ⟨_, rfl⟩
  · rw [if_neg c1]
    have c1' : ¬ (s.length : Int) > 20000 := by omega
    have hl2 := fun e bx => hloop e bx (by omega) hge.2 (by simp)
    have hap : ∀ acc, tkVs (acc ++ [(0, [], s.length)]) = tkVs acc ++ tkVs [(0, [], s.length)] := fun acc => by simp only [tkVs, List.map_append]
    have hln : ∀ acc, acc.length ≤ 4000 → (tkVs acc).length + (tkVs [(0, [], s.length)]).length ≤ 1000000 := fun acc h => by unfold tkVs; rw [List.length_map]; simp; omega
    generalize tk s (sk s 0) [] = v at *
    generalize sk s 0 = k' at *
    generalize tkVs [(0, [], s.length)] = ys at *
    obtain ⟨ev, eo, so, co, ⟨hev, hco⟩, R⟩ := RULES CC; rw [← hev]
    rw [← hco] at hsk
    rw [← hev] at hl2
    simp only [fpart, part', Try.f11, Option.getD] at hl2 ⊢
    simp (maxSteps := 5000000) only [SA, SB, SD, R, guardAt, binP, intP, indexAddrP, elemsOf, readCells, lenP, lenAt, resultsP, resultP, oneOr, reduceCtorEq, reduceIte, Nat.reduceEqDiff, Nat.reduceAdd, Nat.zero_add, Nat.reduceMul, Nat.reduceLT, Nat.reduceLeDiff, Int.reduceLT, Int.reduceNeg, Int.reduceLE, appendP, appendAt, letGo, setLoc, locVal, Int.reduceToNat, boxCells, und, TG, SE, hlen, c1', hsk]
    generalize hE : ev _ _ = r
    have hP : PTk s v r := hE ▸ hl2 _ _ (by simp (maxSteps := 5000000) only [SA, SB, SD, R, guardAt, binP, intP, indexAddrP, elemsOf, readCells, lenP, lenAt, resultsP, resultP, oneOr, reduceCtorEq, reduceIte, Nat.reduceEqDiff, Nat.reduceAdd, Nat.zero_add, Nat.reduceMul, Nat.reduceLT, Nat.reduceLeDiff, Int.reduceLT, Int.reduceNeg, Int.reduceLE, appendP, appendAt, letGo, setLoc, locVal, Int.reduceToNat, boxCells, und]) (by simp (maxSteps := 5000000) only [SA, SB, SD, R, guardAt, binP, intP, indexAddrP, elemsOf, readCells, lenP, lenAt, resultsP, resultP, oneOr, reduceCtorEq, reduceIte, Nat.reduceEqDiff, Nat.reduceAdd, Nat.zero_add, Nat.reduceMul, Nat.reduceLT, Nat.reduceLeDiff, Int.reduceLT, Int.reduceNeg, Int.reduceLE, appendP, appendAt, letGo, setLoc, locVal, Int.reduceToNat, boxCells, und]; rfl) (by simp (maxSteps := 5000000) only [SA, SB, SD, R, guardAt, binP, intP, indexAddrP, elemsOf, readCells, lenP, lenAt, resultsP, resultP, oneOr, reduceCtorEq, reduceIte, Nat.reduceEqDiff, Nat.reduceAdd, Nat.zero_add, Nat.reduceMul, Nat.reduceLT, Nat.reduceLeDiff, Int.reduceLT, Int.reduceNeg, Int.reduceLE, appendP, appendAt, letGo, setLoc, locVal, Int.reduceToNat, boxCells, und])
    obtain ⟨e', bx', ⟨g1, g2, acc, g3, g4, g5, g6⟩ | ⟨g1, g2, g3, g4, g5⟩⟩ := hP
    · subst g1
      have hc := hln acc g3
      rw [g4, hap, g2]
      simp (maxSteps := 5000000) only [SA, SB, SD, R, guardAt, binP, intP, indexAddrP, elemsOf, readCells, lenP, lenAt, resultsP, resultP, oneOr, reduceCtorEq, reduceIte, Nat.reduceEqDiff, Nat.reduceAdd, Nat.zero_add, Nat.reduceMul, Nat.reduceLT, Nat.reduceLeDiff, Int.reduceLT, Int.reduceNeg, Int.reduceLE, appendP, appendAt, letGo, setLoc, locVal, Int.reduceToNat, boxCells, und, TG, SE, g5, g6, hlen, hb, hbs, apTk, hok, hc]
      exact ⟨_, rfl⟩
    · subst g1
      rw [g2]
      simp (maxSteps := 5000000) only [SA, SB, SD, R, guardAt, binP, intP, indexAddrP, elemsOf, readCells, lenP, lenAt, resultsP, resultP, oneOr, reduceCtorEq, reduceIte, Nat.reduceEqDiff, Nat.reduceAdd, Nat.zero_add, Nat.reduceMul, Nat.reduceLT, Nat.reduceLeDiff, Int.reduceLT, Int.reduceNeg, Int.reduceLE, appendP, appendAt, letGo, setLoc, locVal, Int.reduceToNat, boxCells, und, TG, SE, g3, g4, g5]
      exact ⟨_, rfl⟩
theorem ok_L27_LexTokens : fnOK CC Try.f3 (Try.f3.body.getD .skip) = true := by kernel_rfl
theorem fat_L27_LexTokens : CC.P.funcs[3]? = some Try.f3 := by kernel_rfl
theorem toksL_len : ∀ (m : Nat) (s : List UInt8) (i : Nat) (acc : List Tk), acc.length ≤ 4000 → (toksL m s i acc).1.length ≤ 4001
  | 0, _, _, _, _ => by unfold toksL; simp
  | m + 1, s, i, acc, h => by
    unfold toksL
    split
    · split
      · simp
      · split
        · simp
        · exact toksL_len m _ _ _ (by rw [List.length_append, List.length_singleton]; omega)
    · simp only [List.length_append, List.length_singleton]; omega
theorem toks_len (s : List UInt8) : (toks s).1.length ≤ 4001 := by
  unfold toks
  split
  · simp
  · exact toksL_len _ _ _ _ (by simp)
theorem strP_addT (a b : List UInt8) (h : a.length + b.length ≤ 100000) : strP .add a b = some (.str (a ++ b)) := if_pos (by unfold maxStr; omega)
/-- the copies of a source, one behind the other -/
theorem loop_copies (L : Code) (hL : L = fpart Try.f3 [1,1,0,1,0,1,0,1,0]) (s : List UInt8) (hs : s.length ≤ 300) : ∀ (k i : Nat) (acc : List UInt8) (e : List PV), i + k = 80 → acc.length ≤ 300 * i → getT e 0 = .str s → getT e 3 = .str acc → getT e 4 = .int .i64 i →
    ∃ e' M, evL CC L ⟨e, []⟩ = some (.exit 0, ⟨e', []⟩) ∧ M.length ≤ 24000 ∧ getT e' 0 = .str s ∧ getT e' 3 = .str M := by
  intro k
  induction k with
  | zero =>
    intro i acc e hk ha h0 h3 h4
    rw [evL_at (fpart Try.f3 [1,1,0,1,0,1,0,1,0,0]) hL]
    have hi : ¬ ((i : Int) < 80) := by omega
    obtain ⟨ev, eo, so, co, ⟨hev, hco⟩, R⟩ := RULES CC; rw [← hev]
    simp only [fpart, part', Try.f3, Option.getD]
    simp (maxSteps := 5000000) only [SA, SB, SD, R, guardAt, binP, intP, indexAddrP, elemsOf, readCells, lenP, lenAt, resultsP, resultP, oneOr, reduceCtorEq, reduceIte, Nat.reduceEqDiff, Nat.reduceAdd, Nat.zero_add, Nat.reduceMul, Nat.reduceLT, Nat.reduceLeDiff, Int.reduceLT, Int.reduceNeg, Int.reduceLE, appendP, appendAt, letGo, setLoc, locVal, Int.reduceToNat, boxCells, und, TG, SE, h0, h3, h4, hi]
    exact ⟨_, acc, rfl, by omega, by simp (maxSteps := 5000000) only [SA, SB, SD, R, guardAt, binP, intP, indexAddrP, elemsOf, readCells, lenP, lenAt, resultsP, resultP, oneOr, reduceCtorEq, reduceIte, Nat.reduceEqDiff, Nat.reduceAdd, Nat.zero_add, Nat.reduceMul, Nat.reduceLT, Nat.reduceLeDiff, Int.reduceLT, Int.reduceNeg, Int.reduceLE, appendP, appendAt, letGo, setLoc, locVal, Int.reduceToNat, boxCells, und, h0], by simp (maxSteps := 5000000) only [SA, SB, SD, R, guardAt, binP, intP, indexAddrP, elemsOf, readCells, lenP, lenAt, resultsP, resultP, oneOr, reduceCtorEq, reduceIte, Nat.reduceEqDiff, Nat.reduceAdd, Nat.zero_add, Nat.reduceMul, Nat.reduceLT, Nat.reduceLeDiff, Int.reduceLT, Int.reduceNeg, Int.reduceLE, appendP, appendAt, letGo, setLoc, locVal, Int.reduceToNat, boxCells, und, h3]⟩
  | succ k ih =>
    intro i acc e hk ha h0 h3 h4
    rw [evL_at (fpart Try.f3 [1,1,0,1,0,1,0,1,0,0]) hL]
    have hi : ((i : Int) < 80) := by omega
    have w1 := wrap_i64 (n := (i : Int) + 1) ⟨by omega, by omega⟩
    have cast1 : ((i + 1 : Nat) : Int) = (i : Int) + 1 := by omega
    have hS := strP_addT acc s (by omega)
    have key := fun e => ih (i + 1) (acc ++ s) e (by omega) (by rw [List.length_append]; omega)
    rw [cast1] at key
    obtain ⟨ev, eo, so, co, ⟨hev, hco⟩, R⟩ := RULES CC; rw [← hev]
    rw [← hev] at key
    simp only [fpart, part', Try.f3, Option.getD]
    simp (maxSteps := 5000000) only [SA, SB, SD, R, guardAt, binP, intP, indexAddrP, elemsOf, readCells, lenP, lenAt, resultsP, resultP, oneOr, reduceCtorEq, reduceIte, Nat.reduceEqDiff, Nat.reduceAdd, Nat.zero_add, Nat.reduceMul, Nat.reduceLT, Nat.reduceLeDiff, Int.reduceLT, Int.reduceNeg, Int.reduceLE, appendP, appendAt, letGo, setLoc, locVal, Int.reduceToNat, boxCells, und, TG, SE, h0, h3, h4, hi, hS, w1]
    exact key _ (by simp (maxSteps := 5000000) only [SA, SB, SD, R, guardAt, binP, intP, indexAddrP, elemsOf, readCells, lenP, lenAt, resultsP, resultP, oneOr, reduceCtorEq, reduceIte, Nat.reduceEqDiff, Nat.reduceAdd, Nat.zero_add, Nat.reduceMul, Nat.reduceLT, Nat.reduceLeDiff, Int.reduceLT, Int.reduceNeg, Int.reduceLE, appendP, appendAt, letGo, setLoc, locVal, Int.reduceToNat, boxCells, und, h0]) (by simp (maxSteps := 5000000) only [SA, SB, SD, R, guardAt, binP, intP, indexAddrP, elemsOf, readCells, lenP, lenAt, resultsP, resultP, oneOr, reduceCtorEq, reduceIte, Nat.reduceEqDiff, Nat.reduceAdd, Nat.zero_add, Nat.reduceMul, Nat.reduceLT, Nat.reduceLeDiff, Int.reduceLT, Int.reduceNeg, Int.reduceLE, appendP, appendAt, letGo, setLoc, locVal, Int.reduceToNat, boxCells, und]) (by simp (maxSteps := 5000000) only [SA, SB, SD, R, guardAt, binP, intP, indexAddrP, elemsOf, readCells, lenP, lenAt, resultsP, resultP, oneOr, reduceCtorEq, reduceIte, Nat.reduceEqDiff, Nat.reduceAdd, Nat.zero_add, Nat.reduceMul, Nat.reduceLT, Nat.reduceLeDiff, Int.reduceLT, Int.reduceNeg, Int.reduceLE, appendP, appendAt, letGo, setLoc, locVal, Int.reduceToNat, boxCells, und])
theorem op_lex_Tokens (s : List UInt8) (hs : s.length ≤ 900000) (bx) : callOp CC (callL CC) 10 [.str s] bx = some (.ret (.tup [.sl (tkVs (toks s).1), .int .i64 ((toks s).2.1 : Nat), .int .i64 (toks s).2.2]), bx) := by
  obtain ⟨b0, hT⟩ := call_lex_Tokens s (by omega)
  exact callOp_of rfl (by simp only [SA, Bool.and_true]) hT (pureTks _ _ _)
theorem op_R27_Tokens (s : List UInt8) (hs : s.length ≤ 40000) (bx) : callOp CC (callL CC) 11 [.str s] bx = some (.ret (.tup [.sl (tkVs (toks s).1), .int .i64 ((toks s).2.1 : Nat), .int .i64 (toks s).2.2]), bx) := by
  obtain ⟨b0, hT⟩ := call_R27_Tokens s (by omega)
  exact callOp_of rfl (by simp only [SA, Bool.and_true]) hT (pureTks _ _ _)
theorem law_LexTokens (s : List UInt8) (_ : s.length ≤ maxLen) : ∃ bx, callL CC 3 [.str s] [] = some (.ret (.bool true), bx) := by
  rw [callL_enter (fn := Try.f3) (c := Try.f3.body.getD .skip) rfl rfl fat_L27_LexTokens rfl ok_L27_LexTokens (Nat.le_of_ble_eq_true rfl)]
  have hlen := len_str s
  have haw := op_awake
  by_cases c1 : 3000 < s.length
  · have c1' : (s.length : Int) > 3000 := by omega
    obtain ⟨ev, eo, so, co, ⟨hev, hco⟩, R⟩ := RULES CC; rw [← hev]
    rw [← hco] at haw
    simp only [fpart, part', Try.f3, Option.getD]
    simp (maxSteps := 5000000) only [SA, SB, SD, R, guardAt, binP, intP, indexAddrP, elemsOf, readCells, lenP, lenAt, resultsP, resultP, oneOr, reduceCtorEq, reduceIte, Nat.reduceEqDiff, Nat.reduceAdd, Nat.zero_add, Nat.reduceMul, Nat.reduceLT, Nat.reduceLeDiff, Int.reduceLT, Int.reduceNeg, Int.reduceLE, appendP, appendAt, letGo, setLoc, locVal, Int.reduceToNat, boxCells, und, TG, SE, hlen, c1', haw]
    exact ⟨_, rfl⟩
  · have c1' : ¬ (s.length : Int) > 3000 := by omega
    have t1 := op_lex_Tokens s (by omega)
    have t2 := op_R27_Tokens s (by omega)
    have t3 := op_Same (toks s).1 (by have := toks_len s; omega)
    have r1 : (((toks s).2.1 : Int) == ((toks s).2.1 : Int)) = true := by simp
    have r2 : ((toks s).2.2 == (toks s).2.2) = true := by simp
    by_cases c2 : s.length ≤ 300
    · have c2' : (s.length : Int) ≤ 300 := by omega
      have hloop := fun e => loop_copies _ rfl s c2 80 0 [] e rfl (by simp)
      have tt := fun (M : List UInt8) (h : M.length ≤ 24000) => And.intro (op_lex_Tokens M (by omega)) (op_R27_Tokens M (by omega))
      have ts := fun (M : List UInt8) => op_Same (toks M).1 (by have := toks_len M; omega)
      have q1 : ∀ M, (((toks M).2.1 : Int) != ((toks M).2.1 : Int)) = false := fun M => by simp
      have q2 : ∀ M, ((toks M).2.2 != (toks M).2.2) = false := fun M => by simp
      generalize toks s = v at *
      generalize tkVs v.1 = xs at *
      obtain ⟨ev, eo, so, co, ⟨hev, hco⟩, R⟩ := RULES CC; rw [← hev]
      rw [← hco] at haw t1 t2 t3
      rw [← hco] at tt ts
      rw [← hev] at hloop
      simp only [fpart, part', Try.f3, Option.getD] at hloop ⊢
      simp (maxSteps := 5000000) only [SA, SB, SD, R, guardAt, binP, intP, indexAddrP, elemsOf, readCells, lenP, lenAt, resultsP, resultP, oneOr, reduceCtorEq, reduceIte, Nat.reduceEqDiff, Nat.reduceAdd, Nat.zero_add, Nat.reduceMul, Nat.reduceLT, Nat.reduceLeDiff, Int.reduceLT, Int.reduceNeg, Int.reduceLE, appendP, appendAt, letGo, setLoc, locVal, Int.reduceToNat, boxCells, und, TG, SE, hlen, c1', c2']
      generalize hE : ev _ _ = z
      have hP : ∃ e' M, z = some (.exit 0, ⟨e', []⟩) ∧ M.length ≤ 24000 ∧ getT e' 0 = .str s ∧ getT e' 3 = .str M := by
        rw [← hE]
        refine hloop _ ?_ ?_ ?_
        · simp (maxSteps := 5000000) only [SA, SB, SD, R, guardAt, binP, intP, indexAddrP, elemsOf, readCells, lenP, lenAt, resultsP, resultP, oneOr, reduceCtorEq, reduceIte, Nat.reduceEqDiff, Nat.reduceAdd, Nat.zero_add, Nat.reduceMul, Nat.reduceLT, Nat.reduceLeDiff, Int.reduceLT, Int.reduceNeg, Int.reduceLE, appendP, appendAt, letGo, setLoc, locVal, Int.reduceToNat, boxCells, und]
        · simp (maxSteps := 5000000) only [SA, SB, SD, R, guardAt, binP, intP, indexAddrP, elemsOf, readCells, lenP, lenAt, resultsP, resultP, oneOr, reduceCtorEq, reduceIte, Nat.reduceEqDiff, Nat.reduceAdd, Nat.zero_add, Nat.reduceMul, Nat.reduceLT, Nat.reduceLeDiff, Int.reduceLT, Int.reduceNeg, Int.reduceLE, appendP, appendAt, letGo, setLoc, locVal, Int.reduceToNat, boxCells, und]
        · simp (maxSteps := 5000000) only [SA, SB, SD, R, guardAt, binP, intP, indexAddrP, elemsOf, readCells, lenP, lenAt, resultsP, resultP, oneOr, reduceCtorEq, reduceIte, Nat.reduceEqDiff, Nat.reduceAdd, Nat.zero_add, Nat.reduceMul, Nat.reduceLT, Nat.reduceLeDiff, Int.reduceLT, Int.reduceNeg, Int.reduceLE, appendP, appendAt, letGo, setLoc, locVal, Int.reduceToNat, boxCells, und]; rfl
      obtain ⟨e', M, he, hM, k0, k3⟩ := hP
      subst he
      clear hE hloop
      obtain ⟨m1, m2⟩ := tt M hM
      have ts := ts M
      have q1 := q1 M
      have q2 := q2 M
      clear tt
      generalize toks M = u at *
      generalize tkVs u.1 = ys at *
      simp (maxSteps := 5000000) only [SA, SB, SD, R, guardAt, binP, intP, indexAddrP, elemsOf, readCells, lenP, lenAt, resultsP, resultP, oneOr, reduceCtorEq, reduceIte, Nat.reduceEqDiff, Nat.reduceAdd, Nat.zero_add, Nat.reduceMul, Nat.reduceLT, Nat.reduceLeDiff, Int.reduceLT, Int.reduceNeg, Int.reduceLE, appendP, appendAt, letGo, setLoc, locVal, Int.reduceToNat, boxCells, und, TG, SE, unP, k0, k3, m1, m2, ts, q1, q2, t1, t2, t3, r1, r2, haw, Bool.not_true]
      exact ⟨_, rfl⟩
    · have c2' : ¬ (s.length : Int) ≤ 300 := by omega
      generalize toks s = v at *
      generalize tkVs v.1 = xs at *
      obtain ⟨ev, eo, so, co, ⟨hev, hco⟩, R⟩ := RULES CC; rw [← hev]
      rw [← hco] at haw t1 t2 t3
      simp only [fpart, part', Try.f3, Option.getD]
      simp (maxSteps := 5000000) only [SA, SB, SD, R, guardAt, binP, intP, indexAddrP, elemsOf, readCells, lenP, lenAt, resultsP, resultP, oneOr, reduceCtorEq, reduceIte, Nat.reduceEqDiff, Nat.reduceAdd, Nat.zero_add, Nat.reduceMul, Nat.reduceLT, Nat.reduceLeDiff, Int.reduceLT, Int.reduceNeg, Int.reduceLE, appendP, appendAt, letGo, setLoc, locVal, Int.reduceToNat, boxCells, und, TG, SE, hlen, c1', c2', t1, t2, t3, r1, r2, haw]
      exact ⟨_, rfl⟩
end Go.HH
