/-
  Tokens: the program's numbers, strings and operators.
-/
import Derived.Test.YtcjncfhadmigjaaLX6
namespace Go.HH
open Go Go.Proofs
set_option maxRecDepth 100000
set_option linter.unusedSimpArgs false
set_option linter.unusedVariables false
theorem ok_lex_quoted : fnOK CC Try.f29 (Try.f29.body.getD .skip) = true := by kernel_rfl
theorem fat_lex_quoted : CC.P.funcs[29]? = some Try.f29 := by kernel_rfl
theorem ok_lex_operator : fnOK CC Try.f30 (Try.f30.body.getD .skip) = true := by kernel_rfl
theorem fat_lex_operator : CC.P.funcs[30]? = some Try.f30 := by kernel_rfl
theorem runL_all {p : Nat → Bool} {s : List UInt8} : ∀ (m i : Nat), s.length - i ≤ m → ∀ k, i ≤ k → k < runL p s i → ∃ c, s[k]? = some c ∧ p c.toNat = true := by
  intro m
  induction m with
  | zero =>
    intro i hm k h1 h2
    rw [runL_end (by omega)] at h2
    omega
  | succ m ih =>
    intro i hm k h1 h2
    by_cases hi : i < s.length
    · have hx : s[i]? = some s[i] := by simp
      rw [runL_step hx] at h2
      split at h2
      · rename_i hp
        rcases Nat.eq_or_lt_of_le h1 with e | e
        · subst e; exact ⟨_, hx, hp⟩
        · exact ih (i + 1) (by omega) k (by omega) h2
      · omega
    · rw [runL_end (by omega)] at h2
      omega
/-- the number of some digits, if it is not too great -/
def numR : List UInt8 → Nat → Option Nat
  | [], n => some n
  | c :: r, n => if 10 * n + (c.toNat - 48) > 1099511627776 then none else numR r (10 * n + (c.toNat - 48))
def PNum (i e0 : Nat) (o : Option Nat) (r : Option (Ex × St)) : Prop := match o with
  | some _ => ∃ e, r = some (.exit 0, ⟨e, []⟩) ∧ getT e 6 = .int .i64 (e0 : Int)
  | none => ∃ e, r = some (.ret, ⟨e, []⟩) ∧ getT e 4 = .int .i64 (i : Int) ∧ getT e 5 = .int .i64 2
theorem loop_lex_number (L : Code) (hL : L = fpart Try.f28 [1,1,1,0,1,0]) (s : List UInt8) (hs : s.length ≤ 900000) (i e0 : Nat) (he0 : e0 ≤ s.length) (hall : ∀ k, i ≤ k → k < e0 → ∃ c, s[k]? = some c ∧ dg c.toNat = true) : ∀ (j k n : Nat) (e : List PV), k + j = e0 → i ≤ k → n ≤ 1099511627776 → getT e 0 = .str s → getT e 1 = .int .i64 i → getT e 6 = .int .i64 e0 → getT e 7 = .int .i64 n → getT e 8 = .int .i64 k →
    PNum i e0 (numR ((s.drop k).take j) n) (evL CC L ⟨e, []⟩) := by
  intro j
  induction j with
  | zero =>
    intro k n e hk hik hn h0 h1 h6 h7 h8
    rw [evL_at (fpart Try.f28 [1,1,1,0,1,0,0]) hL]
    have hi : ¬ (k : Int) < (e0 : Int) := by omega
    obtain ⟨ev, eo, so, co, ⟨hev, hco⟩, R⟩ := RULES CC; rw [← hev]
    rw [List.take_zero]
    simp only [fpart, part', Try.f28, Option.getD]
    simp (maxSteps := 5000000) only [SA, SB, SD, R, guardAt, binP, intP, indexAddrP, elemsOf, readCells, lenP, lenAt, resultsP, resultP, oneOr, reduceCtorEq, reduceIte, Nat.reduceEqDiff, Nat.reduceAdd, Nat.zero_add, Nat.reduceMul, Nat.reduceLT, Nat.reduceLeDiff, Int.reduceLT, Int.reduceNeg, Int.reduceLE, appendP, appendAt, letGo, setLoc, locVal, Int.reduceToNat, boxCells, und, TG, h6, h8, hi]
    exact ⟨_, rfl, by simp (maxSteps := 5000000) only [SA, SB, SD, R, guardAt, binP, intP, indexAddrP, elemsOf, readCells, lenP, lenAt, resultsP, resultP, oneOr, reduceCtorEq, reduceIte, Nat.reduceEqDiff, Nat.reduceAdd, Nat.zero_add, Nat.reduceMul, Nat.reduceLT, Nat.reduceLeDiff, Int.reduceLT, Int.reduceNeg, Int.reduceLE, appendP, appendAt, letGo, setLoc, locVal, Int.reduceToNat, boxCells, und, h6]⟩
  | succ j ih =>
    intro k n e hk hik hn h0 h1 h6 h7 h8
    rw [evL_at (fpart Try.f28 [1,1,1,0,1,0,0]) hL]
    have hi : (k : Int) < (e0 : Int) := by omega
    obtain ⟨c, hx, hd⟩ := hall k hik (by omega)
    have hkl : k < s.length := (List.getElem?_eq_some_iff.1 hx).1
    have hck : s[k] = c := (List.getElem?_eq_some_iff.1 hx).2
    have hdr : (s.drop k).take (j + 1) = c :: (s.drop (k + 1)).take j := by rw [List.drop_eq_getElem_cons hkl, List.take_succ_cons, hck]
    have hix := ix_str s k c hx
    unfold dg at hd
    simp only [Bool.and_eq_true, decide_eq_true_eq] at hd
    have w2 : IntKind.wrap .u8 ((c.toNat : Int) - 48) = (c.toNat : Int) - 48 := by simp [IntKind.wrap, IntKind.bits, IntKind.signed]; omega
    have w3 := conv_u8_i ((c.toNat : Int) - 48) ⟨by omega, by omega⟩
    have w1 := wrap_i64 (n := 10 * (n : Int)) ⟨by omega, by omega⟩
    have w4 := wrap_i64 (n := 10 * (n : Int) + ((c.toNat : Int) - 48)) ⟨by omega, by omega⟩
    have hw := wrap_i64 (n := (k : Int) + 1) ⟨by omega, by omega⟩
    have hcast : ((10 * n + (c.toNat - 48) : Nat) : Int) = 10 * (n : Int) + ((c.toNat : Int) - 48) := by omega
    have hnr : numR (c :: (s.drop (k + 1)).take j) n = if 10 * n + (c.toNat - 48) > 1099511627776 then none else numR ((s.drop (k + 1)).take j) (10 * n + (c.toNat - 48)) := rfl
    have key := fun (h : ¬ 10 * n + (c.toNat - 48) > 1099511627776) e => ih (k + 1) (10 * n + (c.toNat - 48)) e (by omega) (by omega) (by omega)
    rw [hdr, hnr]
    by_cases c1 : 10 * n + (c.toNat - 48) > 1099511627776
    · have c1' : 10 * (n : Int) + ((c.toNat : Int) - 48) > 1099511627776 := by omega
      rw [if_pos c1]
      obtain ⟨ev, eo, so, co, ⟨hev, hco⟩, R⟩ := RULES CC; rw [← hev]
      simp only [fpart, part', Try.f28, Option.getD]
      simp (maxSteps := 5000000) only [SA, SB, SD, R, guardAt, binP, intP, indexAddrP, elemsOf, readCells, lenP, lenAt, resultsP, resultP, oneOr, reduceCtorEq, reduceIte, Nat.reduceEqDiff, Nat.reduceAdd, Nat.zero_add, Nat.reduceMul, Nat.reduceLT, Nat.reduceLeDiff, Int.reduceLT, Int.reduceNeg, Int.reduceLE, appendP, appendAt, letGo, setLoc, locVal, Int.reduceToNat, boxCells, und, TG, h0, h1, h6, h7, h8, hi, hix, w1, w2, w3, w4, c1']
      exact ⟨_, rfl, by simp (maxSteps := 5000000) only [SA, SB, SD, R, guardAt, binP, intP, indexAddrP, elemsOf, readCells, lenP, lenAt, resultsP, resultP, oneOr, reduceCtorEq, reduceIte, Nat.reduceEqDiff, Nat.reduceAdd, Nat.zero_add, Nat.reduceMul, Nat.reduceLT, Nat.reduceLeDiff, Int.reduceLT, Int.reduceNeg, Int.reduceLE, appendP, appendAt, letGo, setLoc, locVal, Int.reduceToNat, boxCells, und], by simp (maxSteps := 5000000) only [SA, SB, SD, R, guardAt, binP, intP, indexAddrP, elemsOf, readCells, lenP, lenAt, resultsP, resultP, oneOr, reduceCtorEq, reduceIte, Nat.reduceEqDiff, Nat.reduceAdd, Nat.zero_add, Nat.reduceMul, Nat.reduceLT, Nat.reduceLeDiff, Int.reduceLT, Int.reduceNeg, Int.reduceLE, appendP, appendAt, letGo, setLoc, locVal, Int.reduceToNat, boxCells, und]⟩
    · have c1' : ¬ 10 * (n : Int) + ((c.toNat : Int) - 48) > 1099511627776 := by omega
      rw [if_neg c1]
      have key := key c1
      rw [hcast] at key
      obtain ⟨ev, eo, so, co, ⟨hev, hco⟩, R⟩ := RULES CC; rw [← hev]
      rw [← hev] at key
      simp only [fpart, part', Try.f28, Option.getD]
      simp (maxSteps := 5000000) only [SA, SB, SD, R, guardAt, binP, intP, indexAddrP, elemsOf, readCells, lenP, lenAt, resultsP, resultP, oneOr, reduceCtorEq, reduceIte, Nat.reduceEqDiff, Nat.reduceAdd, Nat.zero_add, Nat.reduceMul, Nat.reduceLT, Nat.reduceLeDiff, Int.reduceLT, Int.reduceNeg, Int.reduceLE, appendP, appendAt, letGo, setLoc, locVal, Int.reduceToNat, boxCells, und, TG, h0, h1, h6, h7, h8, hi, hix, w1, w2, w3, w4, c1', hw]
      exact key _ (by simp (maxSteps := 5000000) only [SA, SB, SD, R, guardAt, binP, intP, indexAddrP, elemsOf, readCells, lenP, lenAt, resultsP, resultP, oneOr, reduceCtorEq, reduceIte, Nat.reduceEqDiff, Nat.reduceAdd, Nat.zero_add, Nat.reduceMul, Nat.reduceLT, Nat.reduceLeDiff, Int.reduceLT, Int.reduceNeg, Int.reduceLE, appendP, appendAt, letGo, setLoc, locVal, Int.reduceToNat, boxCells, und, h0]) (by simp (maxSteps := 5000000) only [SA, SB, SD, R, guardAt, binP, intP, indexAddrP, elemsOf, readCells, lenP, lenAt, resultsP, resultP, oneOr, reduceCtorEq, reduceIte, Nat.reduceEqDiff, Nat.reduceAdd, Nat.zero_add, Nat.reduceMul, Nat.reduceLT, Nat.reduceLeDiff, Int.reduceLT, Int.reduceNeg, Int.reduceLE, appendP, appendAt, letGo, setLoc, locVal, Int.reduceToNat, boxCells, und, h1]) (by simp (maxSteps := 5000000) only [SA, SB, SD, R, guardAt, binP, intP, indexAddrP, elemsOf, readCells, lenP, lenAt, resultsP, resultP, oneOr, reduceCtorEq, reduceIte, Nat.reduceEqDiff, Nat.reduceAdd, Nat.zero_add, Nat.reduceMul, Nat.reduceLT, Nat.reduceLeDiff, Int.reduceLT, Int.reduceNeg, Int.reduceLE, appendP, appendAt, letGo, setLoc, locVal, Int.reduceToNat, boxCells, und, h6]) (by simp (maxSteps := 5000000) only [SA, SB, SD, R, guardAt, binP, intP, indexAddrP, elemsOf, readCells, lenP, lenAt, resultsP, resultP, oneOr, reduceCtorEq, reduceIte, Nat.reduceEqDiff, Nat.reduceAdd, Nat.zero_add, Nat.reduceMul, Nat.reduceLT, Nat.reduceLeDiff, Int.reduceLT, Int.reduceNeg, Int.reduceLE, appendP, appendAt, letGo, setLoc, locVal, Int.reduceToNat, boxCells, und]) (by simp (maxSteps := 5000000) only [SA, SB, SD, R, guardAt, binP, intP, indexAddrP, elemsOf, readCells, lenP, lenAt, resultsP, resultP, oneOr, reduceCtorEq, reduceIte, Nat.reduceEqDiff, Nat.reduceAdd, Nat.zero_add, Nat.reduceMul, Nat.reduceLT, Nat.reduceLeDiff, Int.reduceLT, Int.reduceNeg, Int.reduceLE, appendP, appendAt, letGo, setLoc, locVal, Int.reduceToNat, boxCells, und]; rfl)
/-- the offset behind a number, or that it is too great -/
def numL (s : List UInt8) (i : Nat) : Option Nat := (numR ((s.drop i).take (runL dg s i - i)) 0).map fun _ => runL dg s i
theorem call_lex_number (s : List UInt8) (hs : s.length ≤ 900000) (i : Nat) (hi : i ≤ s.length) : callL CC 28 [.str s, .int .i64 (i : Int)] [] = some (.ret (match numL s i with
    | some k => .tup [.int .i64 (k : Int), .int .i64 0]
    | none => .tup [.int .i64 (i : Int), .int .i64 2]), []) := by
  rw [callL_enter (fn := Try.f28) (c := Try.f28.body.getD .skip) rfl rfl fat_lex_number rfl ok_lex_number (Nat.le_of_ble_eq_true rfl)]
  have hrl := runL_le (p := dg) hi
  have hrun := op_lex_run_digit s hs i hi
  have hloop := fun e => loop_lex_number _ rfl s hs i (runL dg s i) hrl.2 (runL_all (s.length) i (by omega)) (runL dg s i - i) i 0 e (by omega) (by omega) (by omega)
  unfold numL
  generalize runL dg s i = e0 at *
  obtain ⟨ev, eo, so, co, ⟨hev, hco⟩, R⟩ := RULES CC; rw [← hev]
  rw [← hev] at hloop
  rw [← hco] at hrun
  simp only [fpart, part', Try.f28, Option.getD] at hloop ⊢
  simp (maxSteps := 5000000) only [SA, SB, SD, R, guardAt, binP, intP, indexAddrP, elemsOf, readCells, lenP, lenAt, resultsP, resultP, oneOr, reduceCtorEq, reduceIte, Nat.reduceEqDiff, Nat.reduceAdd, Nat.zero_add, Nat.reduceMul, Nat.reduceLT, Nat.reduceLeDiff, Int.reduceLT, Int.reduceNeg, Int.reduceLE, appendP, appendAt, letGo, setLoc, locVal, Int.reduceToNat, boxCells, und, TG, SE, opd_func, hrun]
  generalize hE : ev _ ⟨_, _⟩ = r
  have hP : PNum i e0 (numR ((s.drop i).take (e0 - i)) 0) r := by
    rw [← hE]
    exact hloop _ (by simp (maxSteps := 5000000) only [SA, SB, SD, R, guardAt, binP, intP, indexAddrP, elemsOf, readCells, lenP, lenAt, resultsP, resultP, oneOr, reduceCtorEq, reduceIte, Nat.reduceEqDiff, Nat.reduceAdd, Nat.zero_add, Nat.reduceMul, Nat.reduceLT, Nat.reduceLeDiff, Int.reduceLT, Int.reduceNeg, Int.reduceLE, appendP, appendAt, letGo, setLoc, locVal, Int.reduceToNat, boxCells, und]) (by simp (maxSteps := 5000000) only [SA, SB, SD, R, guardAt, binP, intP, indexAddrP, elemsOf, readCells, lenP, lenAt, resultsP, resultP, oneOr, reduceCtorEq, reduceIte, Nat.reduceEqDiff, Nat.reduceAdd, Nat.zero_add, Nat.reduceMul, Nat.reduceLT, Nat.reduceLeDiff, Int.reduceLT, Int.reduceNeg, Int.reduceLE, appendP, appendAt, letGo, setLoc, locVal, Int.reduceToNat, boxCells, und]) (by simp (maxSteps := 5000000) only [SA, SB, SD, R, guardAt, binP, intP, indexAddrP, elemsOf, readCells, lenP, lenAt, resultsP, resultP, oneOr, reduceCtorEq, reduceIte, Nat.reduceEqDiff, Nat.reduceAdd, Nat.zero_add, Nat.reduceMul, Nat.reduceLT, Nat.reduceLeDiff, Int.reduceLT, Int.reduceNeg, Int.reduceLE, appendP, appendAt, letGo, setLoc, locVal, Int.reduceToNat, boxCells, und]) (by simp (maxSteps := 5000000) only [SA, SB, SD, R, guardAt, binP, intP, indexAddrP, elemsOf, readCells, lenP, lenAt, resultsP, resultP, oneOr, reduceCtorEq, reduceIte, Nat.reduceEqDiff, Nat.reduceAdd, Nat.zero_add, Nat.reduceMul, Nat.reduceLT, Nat.reduceLeDiff, Int.reduceLT, Int.reduceNeg, Int.reduceLE, appendP, appendAt, letGo, setLoc, locVal, Int.reduceToNat, boxCells, und]; rfl) (by simp (maxSteps := 5000000) only [SA, SB, SD, R, guardAt, binP, intP, indexAddrP, elemsOf, readCells, lenP, lenAt, resultsP, resultP, oneOr, reduceCtorEq, reduceIte, Nat.reduceEqDiff, Nat.reduceAdd, Nat.zero_add, Nat.reduceMul, Nat.reduceLT, Nat.reduceLeDiff, Int.reduceLT, Int.reduceNeg, Int.reduceLE, appendP, appendAt, letGo, setLoc, locVal, Int.reduceToNat, boxCells, und])
  clear hE hloop
  cases hn : numR ((s.drop i).take (e0 - i)) 0 with
  | some v =>
    rw [hn] at hP
    obtain ⟨e', he, g6⟩ := hP
    subst he
    simp (maxSteps := 5000000) only [SA, SB, SD, R, guardAt, binP, intP, indexAddrP, elemsOf, readCells, lenP, lenAt, resultsP, resultP, oneOr, reduceCtorEq, reduceIte, Nat.reduceEqDiff, Nat.reduceAdd, Nat.zero_add, Nat.reduceMul, Nat.reduceLT, Nat.reduceLeDiff, Int.reduceLT, Int.reduceNeg, Int.reduceLE, appendP, appendAt, letGo, setLoc, locVal, Int.reduceToNat, boxCells, und, TG, SE, g6]
  | none =>
    rw [hn] at hP
    obtain ⟨e', he, g4, g5⟩ := hP
    subst he
    simp (maxSteps := 5000000) only [SA, SB, SD, R, guardAt, binP, intP, indexAddrP, elemsOf, readCells, lenP, lenAt, resultsP, resultP, oneOr, reduceCtorEq, reduceIte, Nat.reduceEqDiff, Nat.reduceAdd, Nat.zero_add, Nat.reduceMul, Nat.reduceLT, Nat.reduceLeDiff, Int.reduceLT, Int.reduceNeg, Int.reduceLE, appendP, appendAt, letGo, setLoc, locVal, Int.reduceToNat, boxCells, und, TG, SE, g4, g5]
theorem op_lex_number (s : List UInt8) (hs : s.length ≤ 900000) (i : Nat) (hi : i ≤ s.length) (bx) : callOp CC (callL CC) 28 [.str s, .int .i64 (i : Int)] bx = some (.ret (match numL s i with
    | some k => .tup [.int .i64 (k : Int), .int .i64 0]
    | none => .tup [.int .i64 (i : Int), .int .i64 2]), bx) := callOp_of rfl (by simp only [SA, Bool.and_true]) (call_lex_number s hs i hi) (by cases numL s i <;> rfl)
/-- the offset of the closing quote, at the end if there is none -/
def endQ : Nat → List UInt8 → Nat → Nat
  | 0, _, e => e
  | m + 1, s, e => if e < s.length ∧ atL s e ≠ 34 then endQ m s (if atL s e = 92 then e + 2 else e + 1) else e
theorem endQ_ge : ∀ (m : Nat) (s : List UInt8) (e : Nat), e ≤ endQ m s e
  | 0, _, e => Nat.le_refl _
  | m + 1, s, e => by
    unfold endQ
    split
    · split
      · have := endQ_ge m s (e + 2); omega
      · have := endQ_ge m s (e + 1); omega
    · exact Nat.le_refl _
theorem endQ_le : ∀ (m : Nat) (s : List UInt8) (e : Nat), e ≤ s.length + 1 → endQ m s e ≤ s.length + 1
  | 0, _, e, h => h
  | m + 1, s, e, h => by
    unfold endQ
    split
    · rename_i hc
      split
      · exact endQ_le m s _ (by omega)
      · exact endQ_le m s _ (by omega)
    · exact h
theorem loop_lex_quoted (L : Code) (hL : L = fpart Try.f29 [1,1,0,0]) (s : List UInt8) (hs : s.length ≤ 900000) (v1 : PV) : ∀ (m x : Nat) (e : List PV), s.length + 1 - x < m → x ≤ s.length + 1 → getT e 0 = .str s → getT e 1 = v1 → getT e 7 = .int .i64 x →
    ∃ e', evL CC L ⟨e, []⟩ = some (.exit 0, ⟨e', []⟩) ∧ getT e' 0 = .str s ∧ getT e' 1 = v1 ∧ getT e' 7 = .int .i64 (endQ m s x : Nat) := by
  intro m
  induction m with
  | zero => intro x e hm; omega
  | succ m ih =>
    intro x e hm hxl h0 h1 h7
    rw [evL_at (fpart Try.f29 [1,1,0,0,0]) hL]
    have hlen := len_str s
    have hq : endQ (m + 1) s x = if x < s.length ∧ atL s x ≠ 34 then endQ m s (if atL s x = 92 then x + 2 else x + 1) else x := rfl
    rw [hq]
    have k1 := fun e => ih (x + 1) e
    have k2 := fun e => ih (x + 2) e
    by_cases hlt : x < s.length
    · have hil : (x : Int) < (s.length : Int) := by omega
      have hx : s[x]? = some (s[x]'(by omega)) := by simp
      have hix := ix_str s x _ hx
      have hat := atL_get hx
      rw [hat]
      generalize s[x]'(by omega) = c at *
      have w1 := wrap_i64 (n := (x : Int) + 1) ⟨by omega, by omega⟩
      have w2 := wrap_i64 (n := (x : Int) + 1 + 1) ⟨by omega, by omega⟩
      by_cases c1 : c.toNat = 34
      · have c1' : ((c.toNat : Int) != 34) = false := by simp [c1]
        rw [if_neg (fun h => h.2 c1)]
        obtain ⟨ev, eo, so, co, ⟨hev, hco⟩, R⟩ := RULES CC; rw [← hev]
        simp only [fpart, part', Try.f29, Option.getD]
        simp (maxSteps := 5000000) only [SA, SB, SD, R, guardAt, binP, intP, indexAddrP, elemsOf, readCells, lenP, lenAt, resultsP, resultP, oneOr, reduceCtorEq, reduceIte, Nat.reduceEqDiff, Nat.reduceAdd, Nat.zero_add, Nat.reduceMul, Nat.reduceLT, Nat.reduceLeDiff, Int.reduceLT, Int.reduceNeg, Int.reduceLE, appendP, appendAt, letGo, setLoc, locVal, Int.reduceToNat, boxCells, und, TG, SE, h0, h1, h7, hlen, hil, hix, c1']
        exact ⟨_, rfl, by simp (maxSteps := 5000000) only [SA, SB, SD, R, guardAt, binP, intP, indexAddrP, elemsOf, readCells, lenP, lenAt, resultsP, resultP, oneOr, reduceCtorEq, reduceIte, Nat.reduceEqDiff, Nat.reduceAdd, Nat.zero_add, Nat.reduceMul, Nat.reduceLT, Nat.reduceLeDiff, Int.reduceLT, Int.reduceNeg, Int.reduceLE, appendP, appendAt, letGo, setLoc, locVal, Int.reduceToNat, boxCells, und, h0], by simp (maxSteps := 5000000) only [SA, SB, SD, R, guardAt, binP, intP, indexAddrP, elemsOf, readCells, lenP, lenAt, resultsP, resultP, oneOr, reduceCtorEq, reduceIte, Nat.reduceEqDiff, Nat.reduceAdd, Nat.zero_add, Nat.reduceMul, Nat.reduceLT, Nat.reduceLeDiff, Int.reduceLT, Int.reduceNeg, Int.reduceLE, appendP, appendAt, letGo, setLoc, locVal, Int.reduceToNat, boxCells, und, h1], by simp (maxSteps := 5000000) only [SA, SB, SD, R, guardAt, binP, intP, indexAddrP, elemsOf, readCells, lenP, lenAt, resultsP, resultP, oneOr, reduceCtorEq, reduceIte, Nat.reduceEqDiff, Nat.reduceAdd, Nat.zero_add, Nat.reduceMul, Nat.reduceLT, Nat.reduceLeDiff, Int.reduceLT, Int.reduceNeg, Int.reduceLE, appendP, appendAt, letGo, setLoc, locVal, Int.reduceToNat, boxCells, und, h7]⟩
      · have c1' : ((c.toNat : Int) != 34) = true := by simp; omega
        rw [if_pos ⟨hlt, c1⟩]
        by_cases c2 : c.toNat = 92
        · have c2' : ((c.toNat : Int) == 92) = true := by simp [c2]
          rw [if_pos c2]
          have k2 := fun e => k2 e (by omega) (by omega)
          have hc2 : ((x + 2 : Nat) : Int) = (x : Int) + 1 + 1 := by omega
          rw [hc2] at k2
          obtain ⟨ev, eo, so, co, ⟨hev, hco⟩, R⟩ := RULES CC; rw [← hev]
          rw [← hev] at k2
          simp only [fpart, part', Try.f29, Option.getD]
          simp (maxSteps := 5000000) only [SA, SB, SD, R, guardAt, binP, intP, indexAddrP, elemsOf, readCells, lenP, lenAt, resultsP, resultP, oneOr, reduceCtorEq, reduceIte, Nat.reduceEqDiff, Nat.reduceAdd, Nat.zero_add, Nat.reduceMul, Nat.reduceLT, Nat.reduceLeDiff, Int.reduceLT, Int.reduceNeg, Int.reduceLE, appendP, appendAt, letGo, setLoc, locVal, Int.reduceToNat, boxCells, und, TG, SE, h0, h1, h7, hlen, hil, hix, c1', c2', w1, w2]
          exact k2 _ (by simp (maxSteps := 5000000) only [SA, SB, SD, R, guardAt, binP, intP, indexAddrP, elemsOf, readCells, lenP, lenAt, resultsP, resultP, oneOr, reduceCtorEq, reduceIte, Nat.reduceEqDiff, Nat.reduceAdd, Nat.zero_add, Nat.reduceMul, Nat.reduceLT, Nat.reduceLeDiff, Int.reduceLT, Int.reduceNeg, Int.reduceLE, appendP, appendAt, letGo, setLoc, locVal, Int.reduceToNat, boxCells, und, h0]) (by simp (maxSteps := 5000000) only [SA, SB, SD, R, guardAt, binP, intP, indexAddrP, elemsOf, readCells, lenP, lenAt, resultsP, resultP, oneOr, reduceCtorEq, reduceIte, Nat.reduceEqDiff, Nat.reduceAdd, Nat.zero_add, Nat.reduceMul, Nat.reduceLT, Nat.reduceLeDiff, Int.reduceLT, Int.reduceNeg, Int.reduceLE, appendP, appendAt, letGo, setLoc, locVal, Int.reduceToNat, boxCells, und, h1]) (by simp (maxSteps := 5000000) only [SA, SB, SD, R, guardAt, binP, intP, indexAddrP, elemsOf, readCells, lenP, lenAt, resultsP, resultP, oneOr, reduceCtorEq, reduceIte, Nat.reduceEqDiff, Nat.reduceAdd, Nat.zero_add, Nat.reduceMul, Nat.reduceLT, Nat.reduceLeDiff, Int.reduceLT, Int.reduceNeg, Int.reduceLE, appendP, appendAt, letGo, setLoc, locVal, Int.reduceToNat, boxCells, und])
        · have c2' : ((c.toNat : Int) == 92) = false := by simp; omega
          rw [if_neg c2]
          have k1 := fun e => k1 e (by omega) (by omega)
          obtain ⟨ev, eo, so, co, ⟨hev, hco⟩, R⟩ := RULES CC; rw [← hev]
          rw [← hev] at k1
          simp only [fpart, part', Try.f29, Option.getD]
          simp (maxSteps := 5000000) only [SA, SB, SD, R, guardAt, binP, intP, indexAddrP, elemsOf, readCells, lenP, lenAt, resultsP, resultP, oneOr, reduceCtorEq, reduceIte, Nat.reduceEqDiff, Nat.reduceAdd, Nat.zero_add, Nat.reduceMul, Nat.reduceLT, Nat.reduceLeDiff, Int.reduceLT, Int.reduceNeg, Int.reduceLE, appendP, appendAt, letGo, setLoc, locVal, Int.reduceToNat, boxCells, und, TG, SE, h0, h1, h7, hlen, hil, hix, c1', c2', w1]
          exact k1 _ (by simp (maxSteps := 5000000) only [SA, SB, SD, R, guardAt, binP, intP, indexAddrP, elemsOf, readCells, lenP, lenAt, resultsP, resultP, oneOr, reduceCtorEq, reduceIte, Nat.reduceEqDiff, Nat.reduceAdd, Nat.zero_add, Nat.reduceMul, Nat.reduceLT, Nat.reduceLeDiff, Int.reduceLT, Int.reduceNeg, Int.reduceLE, appendP, appendAt, letGo, setLoc, locVal, Int.reduceToNat, boxCells, und, h0]) (by simp (maxSteps := 5000000) only [SA, SB, SD, R, guardAt, binP, intP, indexAddrP, elemsOf, readCells, lenP, lenAt, resultsP, resultP, oneOr, reduceCtorEq, reduceIte, Nat.reduceEqDiff, Nat.reduceAdd, Nat.zero_add, Nat.reduceMul, Nat.reduceLT, Nat.reduceLeDiff, Int.reduceLT, Int.reduceNeg, Int.reduceLE, appendP, appendAt, letGo, setLoc, locVal, Int.reduceToNat, boxCells, und, h1]) (by simp (maxSteps := 5000000) only [SA, SB, SD, R, guardAt, binP, intP, indexAddrP, elemsOf, readCells, lenP, lenAt, resultsP, resultP, oneOr, reduceCtorEq, reduceIte, Nat.reduceEqDiff, Nat.reduceAdd, Nat.zero_add, Nat.reduceMul, Nat.reduceLT, Nat.reduceLeDiff, Int.reduceLT, Int.reduceNeg, Int.reduceLE, appendP, appendAt, letGo, setLoc, locVal, Int.reduceToNat, boxCells, und]; rfl)
    · have hil : ¬ (x : Int) < (s.length : Int) := by omega
      rw [if_neg (fun h => hlt h.1)]
      obtain ⟨ev, eo, so, co, ⟨hev, hco⟩, R⟩ := RULES CC; rw [← hev]
      simp only [fpart, part', Try.f29, Option.getD]
      simp (maxSteps := 5000000) only [SA, SB, SD, R, guardAt, binP, intP, indexAddrP, elemsOf, readCells, lenP, lenAt, resultsP, resultP, oneOr, reduceCtorEq, reduceIte, Nat.reduceEqDiff, Nat.reduceAdd, Nat.zero_add, Nat.reduceMul, Nat.reduceLT, Nat.reduceLeDiff, Int.reduceLT, Int.reduceNeg, Int.reduceLE, appendP, appendAt, letGo, setLoc, locVal, Int.reduceToNat, boxCells, und, TG, SE, h0, h1, h7, hlen, hil]
      exact ⟨_, rfl, by simp (maxSteps := 5000000) only [SA, SB, SD, R, guardAt, binP, intP, indexAddrP, elemsOf, readCells, lenP, lenAt, resultsP, resultP, oneOr, reduceCtorEq, reduceIte, Nat.reduceEqDiff, Nat.reduceAdd, Nat.zero_add, Nat.reduceMul, Nat.reduceLT, Nat.reduceLeDiff, Int.reduceLT, Int.reduceNeg, Int.reduceLE, appendP, appendAt, letGo, setLoc, locVal, Int.reduceToNat, boxCells, und, h0], by simp (maxSteps := 5000000) only [SA, SB, SD, R, guardAt, binP, intP, indexAddrP, elemsOf, readCells, lenP, lenAt, resultsP, resultP, oneOr, reduceCtorEq, reduceIte, Nat.reduceEqDiff, Nat.reduceAdd, Nat.zero_add, Nat.reduceMul, Nat.reduceLT, Nat.reduceLeDiff, Int.reduceLT, Int.reduceNeg, Int.reduceLE, appendP, appendAt, letGo, setLoc, locVal, Int.reduceToNat, boxCells, und, h1], by simp (maxSteps := 5000000) only [SA, SB, SD, R, guardAt, binP, intP, indexAddrP, elemsOf, readCells, lenP, lenAt, resultsP, resultP, oneOr, reduceCtorEq, reduceIte, Nat.reduceEqDiff, Nat.reduceAdd, Nat.zero_add, Nat.reduceMul, Nat.reduceLT, Nat.reduceLeDiff, Int.reduceLT, Int.reduceNeg, Int.reduceLE, appendP, appendAt, letGo, setLoc, locVal, Int.reduceToNat, boxCells, und, h7]⟩
/-- a string in quotes: its text, and the offset behind it -/
def strL (s : List UInt8) (i : Nat) : Option (List UInt8 × Nat) :=
  let e := endQ (s.length + 1) s (i + 1)
  if s.length ≤ e then none else if (unq ((s.take (e + 1)).drop i)).2 ≠ 0 then none else some ((unq ((s.take (e + 1)).drop i)).1, e + 1)
theorem call_lex_quoted (s : List UInt8) (hs : s.length ≤ 900000) (i : Nat) (hi : i ≤ s.length) : callL CC 29 [.str s, .int .i64 (i : Int)] [] = some (.ret (match strL s i with
    | some (t, k) => .tup [.str t, .int .i64 (k : Int), .int .i64 0]
    | none => .tup [.str [], .int .i64 (i : Int), .int .i64 4]), []) := by
  rw [callL_enter (fn := Try.f29) (c := Try.f29.body.getD .skip) rfl rfl fat_lex_quoted rfl ok_lex_quoted (Nat.le_of_ble_eq_true rfl)]
  have hlen := len_str s
  have hloop := loop_lex_quoted _ rfl s hs (.int .i64 i) (s.length + 1) (i + 1)
  have hge := endQ_ge (s.length + 1) s (i + 1)
  have w1 := wrap_i64 (n := (i : Int) + 1) ⟨by omega, by omega⟩
  unfold strL
  simp only
  generalize endQ (s.length + 1) s (i + 1) = x at *
  have w2 := fun (h : x < s.length) => wrap_i64 (n := (x : Int) + 1) ⟨by omega, by omega⟩
  have hsl := fun (h : x < s.length) => sl_str s i ((x : Int) + 1) (by omega) (by omega) (by omega)
  have hto : ((x : Int) + 1).toNat = x + 1 := by omega
  have hun := op_names_Unquote ((s.take (x + 1)).drop i) (by rw [List.length_drop, List.length_take]; omega)
  have hc1 : ((i + 1 : Nat) : Int) = (i : Int) + 1 := by omega
  by_cases c1 : s.length ≤ x
  · have c1' : (x : Int) ≥ (s.length : Int) := by omega
    rw [if_pos c1]
    obtain ⟨ev, eo, so, co, ⟨hev, hco⟩, R⟩ := RULES CC; rw [← hev]
    rw [← hev] at hloop
    simp only [fpart, part', Try.f29, Option.getD] at hloop ⊢
    simp (maxSteps := 5000000) only [SA, SB, SD, R, guardAt, binP, intP, indexAddrP, elemsOf, readCells, lenP, lenAt, resultsP, resultP, oneOr, reduceCtorEq, reduceIte, Nat.reduceEqDiff, Nat.reduceAdd, Nat.zero_add, Nat.reduceMul, Nat.reduceLT, Nat.reduceLeDiff, Int.reduceLT, Int.reduceNeg, Int.reduceLE, appendP, appendAt, letGo, setLoc, locVal, Int.reduceToNat, boxCells, und, TG, SE, w1]
    generalize hE : ev _ ⟨_, _⟩ = r
    obtain ⟨e', he, g0, g1, g7⟩ := useLoop' hE (hloop _ (by omega) (by omega) (by simp (maxSteps := 5000000) only [SA, SB, SD, R, guardAt, binP, intP, indexAddrP, elemsOf, readCells, lenP, lenAt, resultsP, resultP, oneOr, reduceCtorEq, reduceIte, Nat.reduceEqDiff, Nat.reduceAdd, Nat.zero_add, Nat.reduceMul, Nat.reduceLT, Nat.reduceLeDiff, Int.reduceLT, Int.reduceNeg, Int.reduceLE, appendP, appendAt, letGo, setLoc, locVal, Int.reduceToNat, boxCells, und]) (by simp (maxSteps := 5000000) only [SA, SB, SD, R, guardAt, binP, intP, indexAddrP, elemsOf, readCells, lenP, lenAt, resultsP, resultP, oneOr, reduceCtorEq, reduceIte, Nat.reduceEqDiff, Nat.reduceAdd, Nat.zero_add, Nat.reduceMul, Nat.reduceLT, Nat.reduceLeDiff, Int.reduceLT, Int.reduceNeg, Int.reduceLE, appendP, appendAt, letGo, setLoc, locVal, Int.reduceToNat, boxCells, und]) (by simp (maxSteps := 5000000) only [SA, SB, SD, R, guardAt, binP, intP, indexAddrP, elemsOf, readCells, lenP, lenAt, resultsP, resultP, oneOr, reduceCtorEq, reduceIte, Nat.reduceEqDiff, Nat.reduceAdd, Nat.zero_add, Nat.reduceMul, Nat.reduceLT, Nat.reduceLeDiff, Int.reduceLT, Int.reduceNeg, Int.reduceLE, appendP, appendAt, letGo, setLoc, locVal, Int.reduceToNat, boxCells, und, hc1]))
    subst he
    simp (maxSteps := 5000000) only [SA, SB, SD, R, guardAt, binP, intP, indexAddrP, elemsOf, readCells, lenP, lenAt, resultsP, resultP, oneOr, reduceCtorEq, reduceIte, Nat.reduceEqDiff, Nat.reduceAdd, Nat.zero_add, Nat.reduceMul, Nat.reduceLT, Nat.reduceLeDiff, Int.reduceLT, Int.reduceNeg, Int.reduceLE, appendP, appendAt, letGo, setLoc, locVal, Int.reduceToNat, boxCells, und, TG, SE, g0, g1, g7, hlen, c1']
  · have c1' : ¬ (x : Int) ≥ (s.length : Int) := by omega
    rw [if_neg c1]
    have w2 := w2 (by omega)
    have hsl := hsl (by omega)
    rw [hto, Int.toNat_natCast] at hsl
    generalize (s.take (x + 1)).drop i = q at *
    by_cases c2 : (unq q).2 = 0
    · have c2' : ((0 : Int) != 0) = false := rfl
      rw [if_neg (fun h => h c2)]
      rw [c2] at hun
      obtain ⟨ev, eo, so, co, ⟨hev, hco⟩, R⟩ := RULES CC; rw [← hev]
      rw [← hev] at hloop
      rw [← hco] at hun
      simp only [fpart, part', Try.f29, Option.getD] at hloop ⊢
      simp (maxSteps := 5000000) only [SA, SB, SD, R, guardAt, binP, intP, indexAddrP, elemsOf, readCells, lenP, lenAt, resultsP, resultP, oneOr, reduceCtorEq, reduceIte, Nat.reduceEqDiff, Nat.reduceAdd, Nat.zero_add, Nat.reduceMul, Nat.reduceLT, Nat.reduceLeDiff, Int.reduceLT, Int.reduceNeg, Int.reduceLE, appendP, appendAt, letGo, setLoc, locVal, Int.reduceToNat, boxCells, und, TG, SE, w1]
      generalize hE : ev _ ⟨_, _⟩ = r
      obtain ⟨e', he, g0, g1, g7⟩ := useLoop' hE (hloop _ (by omega) (by omega) (by simp (maxSteps := 5000000) only [SA, SB, SD, R, guardAt, binP, intP, indexAddrP, elemsOf, readCells, lenP, lenAt, resultsP, resultP, oneOr, reduceCtorEq, reduceIte, Nat.reduceEqDiff, Nat.reduceAdd, Nat.zero_add, Nat.reduceMul, Nat.reduceLT, Nat.reduceLeDiff, Int.reduceLT, Int.reduceNeg, Int.reduceLE, appendP, appendAt, letGo, setLoc, locVal, Int.reduceToNat, boxCells, und]) (by simp (maxSteps := 5000000) only [SA, SB, SD, R, guardAt, binP, intP, indexAddrP, elemsOf, readCells, lenP, lenAt, resultsP, resultP, oneOr, reduceCtorEq, reduceIte, Nat.reduceEqDiff, Nat.reduceAdd, Nat.zero_add, Nat.reduceMul, Nat.reduceLT, Nat.reduceLeDiff, Int.reduceLT, Int.reduceNeg, Int.reduceLE, appendP, appendAt, letGo, setLoc, locVal, Int.reduceToNat, boxCells, und]) (by simp (maxSteps := 5000000) only [SA, SB, SD, R, guardAt, binP, intP, indexAddrP, elemsOf, readCells, lenP, lenAt, resultsP, resultP, oneOr, reduceCtorEq, reduceIte, Nat.reduceEqDiff, Nat.reduceAdd, Nat.zero_add, Nat.reduceMul, Nat.reduceLT, Nat.reduceLeDiff, Int.reduceLT, Int.reduceNeg, Int.reduceLE, appendP, appendAt, letGo, setLoc, locVal, Int.reduceToNat, boxCells, und, hc1]))
      subst he
      simp (maxSteps := 5000000) only [SA, SB, SD, R, guardAt, binP, intP, indexAddrP, elemsOf, readCells, lenP, lenAt, resultsP, resultP, oneOr, reduceCtorEq, reduceIte, Nat.reduceEqDiff, Nat.reduceAdd, Nat.zero_add, Nat.reduceMul, Nat.reduceLT, Nat.reduceLeDiff, Int.reduceLT, Int.reduceNeg, Int.reduceLE, appendP, appendAt, letGo, setLoc, locVal, Int.reduceToNat, boxCells, und, TG, SE, g0, g1, g7, hlen, c1', w2, hsl, hun, c2']
      rfl
    · have c2' : ((unq q).2 != 0) = true := by simpa using c2
      rw [if_pos c2]
      obtain ⟨ev, eo, so, co, ⟨hev, hco⟩, R⟩ := RULES CC; rw [← hev]
      rw [← hev] at hloop
      rw [← hco] at hun
      simp only [fpart, part', Try.f29, Option.getD] at hloop ⊢
      simp (maxSteps := 5000000) only [SA, SB, SD, R, guardAt, binP, intP, indexAddrP, elemsOf, readCells, lenP, lenAt, resultsP, resultP, oneOr, reduceCtorEq, reduceIte, Nat.reduceEqDiff, Nat.reduceAdd, Nat.zero_add, Nat.reduceMul, Nat.reduceLT, Nat.reduceLeDiff, Int.reduceLT, Int.reduceNeg, Int.reduceLE, appendP, appendAt, letGo, setLoc, locVal, Int.reduceToNat, boxCells, und, TG, SE, w1]
      generalize hE : ev _ ⟨_, _⟩ = r
      obtain ⟨e', he, g0, g1, g7⟩ := useLoop' hE (hloop _ (by omega) (by omega) (by simp (maxSteps := 5000000) only [SA, SB, SD, R, guardAt, binP, intP, indexAddrP, elemsOf, readCells, lenP, lenAt, resultsP, resultP, oneOr, reduceCtorEq, reduceIte, Nat.reduceEqDiff, Nat.reduceAdd, Nat.zero_add, Nat.reduceMul, Nat.reduceLT, Nat.reduceLeDiff, Int.reduceLT, Int.reduceNeg, Int.reduceLE, appendP, appendAt, letGo, setLoc, locVal, Int.reduceToNat, boxCells, und]) (by simp (maxSteps := 5000000) only [SA, SB, SD, R, guardAt, binP, intP, indexAddrP, elemsOf, readCells, lenP, lenAt, resultsP, resultP, oneOr, reduceCtorEq, reduceIte, Nat.reduceEqDiff, Nat.reduceAdd, Nat.zero_add, Nat.reduceMul, Nat.reduceLT, Nat.reduceLeDiff, Int.reduceLT, Int.reduceNeg, Int.reduceLE, appendP, appendAt, letGo, setLoc, locVal, Int.reduceToNat, boxCells, und]) (by simp (maxSteps := 5000000) only [SA, SB, SD, R, guardAt, binP, intP, indexAddrP, elemsOf, readCells, lenP, lenAt, resultsP, resultP, oneOr, reduceCtorEq, reduceIte, Nat.reduceEqDiff, Nat.reduceAdd, Nat.zero_add, Nat.reduceMul, Nat.reduceLT, Nat.reduceLeDiff, Int.reduceLT, Int.reduceNeg, Int.reduceLE, appendP, appendAt, letGo, setLoc, locVal, Int.reduceToNat, boxCells, und, hc1]))
      subst he
      simp (maxSteps := 5000000) only [SA, SB, SD, R, guardAt, binP, intP, indexAddrP, elemsOf, readCells, lenP, lenAt, resultsP, resultP, oneOr, reduceCtorEq, reduceIte, Nat.reduceEqDiff, Nat.reduceAdd, Nat.zero_add, Nat.reduceMul, Nat.reduceLT, Nat.reduceLeDiff, Int.reduceLT, Int.reduceNeg, Int.reduceLE, appendP, appendAt, letGo, setLoc, locVal, Int.reduceToNat, boxCells, und, TG, SE, g0, g1, g7, hlen, c1', w2, hsl, hun, c2']
theorem op_lex_quoted (s : List UInt8) (hs : s.length ≤ 900000) (i : Nat) (hi : i ≤ s.length) (bx) : callOp CC (callL CC) 29 [.str s, .int .i64 (i : Int)] bx = some (.ret (match strL s i with
    | some (t, k) => .tup [.str t, .int .i64 (k : Int), .int .i64 0]
    | none => .tup [.str [], .int .i64 (i : Int), .int .i64 4]), bx) := callOp_of rfl (by simp only [SA, Bool.and_true]) (call_lex_quoted s hs i hi) (by cases strL s i <;> rfl)
end Go.HH
