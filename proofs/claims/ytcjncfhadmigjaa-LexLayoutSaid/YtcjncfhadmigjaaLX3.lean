/-
  Quoted strings: the next byte, in the program.
-/
import Derived.Test.YtcjncfhadmigjaaLX2
namespace Go.HH
open Go Go.Proofs
set_option maxRecDepth 100000
set_option linter.unusedSimpArgs false
set_option linter.unusedVariables false
theorem ok_names_next : fnOK CC Try.f52 (Try.f52.body.getD .skip) = true := by kernel_rfl
theorem fat_names_next : CC.P.funcs[52]? = some Try.f52 := by kernel_rfl
theorem or_hexF : ∀ a : _root_.Fin 16, ∀ b : _root_.Fin 16, bitsP .or .i64 ((a.val : Int) * 16) (b.val : Int) = some ((a.val : Int) * 16 + b.val) := by decide +kernel
theorem or_hex {a b : Int} (ha : 0 ≤ a ∧ a < 16) (hb : 0 ≤ b ∧ b < 16) : bitsP .or .i64 (a * 16) b = some (a * 16 + b) := by
  have := or_hexF ⟨a.toNat, by omega⟩ ⟨b.toNat, by omega⟩
  simp only at this
  rwa [Int.toNat_of_nonneg ha.1, Int.toNat_of_nonneg hb.1] at this
theorem shl4 {a : Int} (ha : 0 ≤ a ∧ a < 16) : shiftP .shl .i64 a 4 = some (.int .i64 (a * 16)) := by
  have w := wrap_i64 (n := a * 16) ⟨by omega, by omega⟩
  unfold shiftP
  rw [if_neg (by decide)]
  show some (PV.int .i64 (IntKind.wrap .i64 (a * 2 ^ (min (Int.toNat 4) 64)))) = _
  rw [show (2 : Int) ^ (min (Int.toNat 4) 64) = 16 from by decide, w]
theorem hexV_lt (c : UInt8) : -1 ≤ hexV c ∧ hexV c < 16 := by unfold hexV hexN; split <;> (try split) <;> omega
theorem conv_i_u8 (n : Int) (h : 0 ≤ n ∧ n < 256) : convP CC 3 5 (.int .i64 n) = some (.int .u8 n) := by
  have w : IntKind.wrap .u8 n = n := by simp [IntKind.wrap, IntKind.bits, IntKind.signed]; omega
  unfold convP
  simp only [TG, w]
theorem conv_u8_i (n : Int) (h : 0 ≤ n ∧ n < 256) : convP CC 5 3 (.int .u8 n) = some (.int .i64 n) := by
  unfold convP
  simp only [TG, wrap_i64 (n := n) ⟨by omega, by omega⟩]
theorem conv_u8_r (n : Int) (h : 0 ≤ n ∧ n < 256) : convP CC 5 21 (.int .u8 n) = some (.int .i32 n) := by
  have w : IntKind.wrap .i32 n = n := by simp [IntKind.wrap, IntKind.bits, IntKind.signed]; omega
  unfold convP
  simp only [TG, w]
theorem conv_r_u8 (n : Int) (h : 0 ≤ n ∧ n < 256) : convP CC 21 5 (.int .i32 n) = some (.int .u8 n) := by
  have w : IntKind.wrap .u8 n = n := by simp [IntKind.wrap, IntKind.bits, IntKind.signed]; omega
  unfold convP
  simp only [TG, w]
theorem strP_neq (a b : List UInt8) : strP .neq a b = some (.bool (!(a == b))) := rfl
theorem strP_eql (a b : List UInt8) : strP .eql a b = some (.bool (a == b)) := rfl
/-- two hexadecimal digits -/
def hex2 (x y : UInt8) : Nat := (hexV x * 16 + hexV y).toNat
/-- the byte that a text in quotes begins with, and the length of its form; 0 if there is none -/
def nextL : List UInt8 → Nat × Nat
  | [] => (0, 0)
  | c :: r =>
    if c.toNat = 34 then (0, 0)
    else if c.toNat ≠ 92 then (if formL c = [c] then (c.toNat, 1) else (0, 0))
    else match r with
      | [] => (0, 0)
      | d :: r =>
        if d.toNat = 34 ∨ d.toNat = 92 then (d.toNat, 2)
        else match r with
          | x :: y :: _ => if d.toNat = 120 ∧ 0 ≤ hexV x ∧ 0 ≤ hexV y ∧ formN (hex2 x y) = [c, d, x, y] then (hex2 x y, 4) else (0, 0)
          | _ => (0, 0)
theorem nextL_lt (s : List UInt8) : (nextL s).1 < 256 ∧ (nextL s).2 ≤ s.length ∧ (nextL s).2 ≤ 4 := by
  unfold nextL
  split
  · simp
  · rename_i c r
    have := UInt8.toNat_lt c
    split
    · simp
    · split
      · split <;> simp <;> omega
      · cases r with
        | nil => simp
        | cons d r =>
          have := UInt8.toNat_lt d
          simp only
          split
          · simp; omega
          · match r with
            | [] => simp
            | [_] => simp
            | x :: y :: r =>
              have := hexV_lt x
              have := hexV_lt y
              unfold hex2
              simp only
              split <;> simp <;> omega
theorem ixc (s : List UInt8) (n : Nat) (c : UInt8) (h : s[n]? = some c) : indexV CC 9 (.str s) (.int .i64 (n : Int)) = some (.int .u8 (c.toNat : Int)) := ix_str s n c h
theorem call_names_next (s : List UInt8) (hs : s.length ≤ 1000000) : callL CC 52 [.str s] [] = some (.ret (.tup [.int .u8 ((nextL s).1 : Int), .int .i64 ((nextL s).2 : Int)]), []) := by
  rw [callL_enter (fn := Try.f52) (c := Try.f52.body.getD .skip) rfl rfl fat_names_next rfl ok_names_next (Nat.le_of_ble_eq_true rfl)]
  have hl := len_str s
  match s, hs with
  | [], _ =>
    obtain ⟨ev, eo, so, co, ⟨hev, hco⟩, R⟩ := RULES CC; rw [← hev]
    simp only [fpart, part', Try.f52, Option.getD]
    simp (maxSteps := 5000000) only [SA, SB, SD, R, guardAt, binP, intP, indexAddrP, elemsOf, readCells, lenP, lenAt, resultsP, resultP, oneOr, reduceCtorEq, reduceIte, Nat.reduceEqDiff, Nat.reduceAdd, Nat.zero_add, Nat.reduceMul, Nat.reduceLT, Nat.reduceLeDiff, Int.reduceLT, Int.reduceNeg, Int.reduceLE, appendP, appendAt, letGo, setLoc, locVal, Int.reduceToNat, boxCells, und, TG, strP_eql]
    rfl
  | c :: r, hs =>
    have i0 : indexV CC 9 (.str (c :: r)) (.int .i64 0) = some (.int .u8 (c.toNat : Int)) := ixc (c :: r) 0 c rfl
    have hne : ((c :: r : List UInt8) == []) = false := rfl
    by_cases c1 : c.toNat = 34
    · have c1' : ((c.toNat : Int) == 34) = true := by simp [c1]
      have e : nextL (c :: r) = (0, 0) := by unfold nextL; simp only; rw [if_pos c1]
      rw [e]
      obtain ⟨ev, eo, so, co, ⟨hev, hco⟩, R⟩ := RULES CC; rw [← hev]
      simp only [fpart, part', Try.f52, Option.getD]
      simp (maxSteps := 5000000) only [SA, SB, SD, R, guardAt, binP, intP, indexAddrP, elemsOf, readCells, lenP, lenAt, resultsP, resultP, oneOr, reduceCtorEq, reduceIte, Nat.reduceEqDiff, Nat.reduceAdd, Nat.zero_add, Nat.reduceMul, Nat.reduceLT, Nat.reduceLeDiff, Int.reduceLT, Int.reduceNeg, Int.reduceLE, appendP, appendAt, letGo, setLoc, locVal, Int.reduceToNat, boxCells, und, TG, strP_eql, hne, i0, c1']
      rfl
    · have c1' : ((c.toNat : Int) == 34) = false := by simp; omega
      by_cases c2 : c.toNat = 92
      · have c2' : ((c.toNat : Int) != 92) = false := by simp [c2]
        match r, hs with
        | [], _ =>
          have e : nextL [c] = (0, 0) := by unfold nextL; simp only; rw [if_neg c1, if_neg (by omega)]
          have l1 : ¬ (((0 + 1 : Nat) : Int) ≥ 2) := by decide
          have l2 : (((0 + 1 : Nat) : Int) < 4) := by decide
          rw [e]
          obtain ⟨ev, eo, so, co, ⟨hev, hco⟩, R⟩ := RULES CC; rw [← hev]
          simp only [fpart, part', Try.f52, Option.getD]
          simp (maxSteps := 5000000) only [SA, SB, SD, R, guardAt, binP, intP, indexAddrP, elemsOf, readCells, lenP, lenAt, resultsP, resultP, oneOr, reduceCtorEq, reduceIte, Nat.reduceEqDiff, Nat.reduceAdd, Nat.zero_add, Nat.reduceMul, Nat.reduceLT, Nat.reduceLeDiff, Int.reduceLT, Int.reduceNeg, Int.reduceLE, appendP, appendAt, letGo, setLoc, locVal, Int.reduceToNat, boxCells, und, TG, strP_eql, hne, i0, c1', c2', l1, l2]
          rfl
        | d :: r, hs =>
          have i1 : indexV CC 9 (.str (c :: d :: r)) (.int .i64 1) = some (.int .u8 (d.toNat : Int)) := ixc (c :: d :: r) 1 d rfl
          by_cases c3 : d.toNat = 34
          · have c3' : ((d.toNat : Int) == 34) = true := by simp [c3]
            have e : nextL (c :: d :: r) = (d.toNat, 2) := by unfold nextL; simp only; rw [if_neg c1, if_neg (by omega)]; rw [if_pos (Or.inl c3)]
            rw [e]
            have hl := len_str (c :: d :: r)
            have l1 : (((c :: d :: r : List UInt8).length : Int) ≥ 2) := by simp only [List.length_cons, List.length_nil]; omega
            generalize (c :: d :: r : List UInt8) = S at *
            obtain ⟨ev, eo, so, co, ⟨hev, hco⟩, R⟩ := RULES CC; rw [← hev]
            simp only [fpart, part', Try.f52, Option.getD]
            simp (maxSteps := 5000000) only [SA, SB, SD, R, guardAt, binP, intP, indexAddrP, elemsOf, readCells, lenP, lenAt, resultsP, resultP, oneOr, reduceCtorEq, reduceIte, Nat.reduceEqDiff, Nat.reduceAdd, Nat.zero_add, Nat.reduceMul, Nat.reduceLT, Nat.reduceLeDiff, Int.reduceLT, Int.reduceNeg, Int.reduceLE, appendP, appendAt, letGo, setLoc, locVal, Int.reduceToNat, boxCells, und, TG, strP_eql, hne, hl, i0, i1, c1', c2', l1, c3']
            rfl
          · have c3' : ((d.toNat : Int) == 34) = false := by simp; omega
            by_cases c4 : d.toNat = 92
            · have c4' : ((d.toNat : Int) == 92) = true := by simp [c4]
              have e : nextL (c :: d :: r) = (d.toNat, 2) := by unfold nextL; simp only; rw [if_neg c1, if_neg (by omega)]; rw [if_pos (Or.inr c4)]
              rw [e]
              have hl := len_str (c :: d :: r)
              have l1 : (((c :: d :: r : List UInt8).length : Int) ≥ 2) := by simp only [List.length_cons, List.length_nil]; omega
              generalize (c :: d :: r : List UInt8) = S at *
              obtain ⟨ev, eo, so, co, ⟨hev, hco⟩, R⟩ := RULES CC; rw [← hev]
              simp only [fpart, part', Try.f52, Option.getD]
              simp (maxSteps := 5000000) only [SA, SB, SD, R, guardAt, binP, intP, indexAddrP, elemsOf, readCells, lenP, lenAt, resultsP, resultP, oneOr, reduceCtorEq, reduceIte, Nat.reduceEqDiff, Nat.reduceAdd, Nat.zero_add, Nat.reduceMul, Nat.reduceLT, Nat.reduceLeDiff, Int.reduceLT, Int.reduceNeg, Int.reduceLE, appendP, appendAt, letGo, setLoc, locVal, Int.reduceToNat, boxCells, und, TG, strP_eql, hne, hl, i0, i1, c1', c2', l1, c3', c4']
              rfl
            · have c4' : ((d.toNat : Int) == 92) = false := by simp; omega
              match r, hs with
              | [], _ =>
                have e : nextL [c, d] = (0, 0) := by unfold nextL; simp only; rw [if_neg c1, if_neg (by omega)]; rw [if_neg (by omega)]
                have l2 : ((([c, d] : List UInt8).length : Int) < 4) := by simp only [List.length_cons, List.length_nil]; omega
                rw [e]
                have hl := len_str ([c, d])
                have l1 : ((([c, d] : List UInt8).length : Int) ≥ 2) := by simp only [List.length_cons, List.length_nil]; omega
                generalize ([c, d] : List UInt8) = S at *
                obtain ⟨ev, eo, so, co, ⟨hev, hco⟩, R⟩ := RULES CC; rw [← hev]
                simp only [fpart, part', Try.f52, Option.getD]
                simp (maxSteps := 5000000) only [SA, SB, SD, R, guardAt, binP, intP, indexAddrP, elemsOf, readCells, lenP, lenAt, resultsP, resultP, oneOr, reduceCtorEq, reduceIte, Nat.reduceEqDiff, Nat.reduceAdd, Nat.zero_add, Nat.reduceMul, Nat.reduceLT, Nat.reduceLeDiff, Int.reduceLT, Int.reduceNeg, Int.reduceLE, appendP, appendAt, letGo, setLoc, locVal, Int.reduceToNat, boxCells, und, TG, strP_eql, hne, hl, i0, i1, c1', c2', l1, l2, c3', c4']
                rfl
              | [x], _ =>
                have e : nextL [c, d, x] = (0, 0) := by unfold nextL; simp only; rw [if_neg c1, if_neg (by omega)]; rw [if_neg (by omega)]
                have l2 : ((([c, d, x] : List UInt8).length : Int) < 4) := by simp only [List.length_cons, List.length_nil]; omega
                rw [e]
                have hl := len_str ([c, d, x])
                have l1 : ((([c, d, x] : List UInt8).length : Int) ≥ 2) := by simp only [List.length_cons, List.length_nil]; omega
                generalize ([c, d, x] : List UInt8) = S at *
                obtain ⟨ev, eo, so, co, ⟨hev, hco⟩, R⟩ := RULES CC; rw [← hev]
                simp only [fpart, part', Try.f52, Option.getD]
                simp (maxSteps := 5000000) only [SA, SB, SD, R, guardAt, binP, intP, indexAddrP, elemsOf, readCells, lenP, lenAt, resultsP, resultP, oneOr, reduceCtorEq, reduceIte, Nat.reduceEqDiff, Nat.reduceAdd, Nat.zero_add, Nat.reduceMul, Nat.reduceLT, Nat.reduceLeDiff, Int.reduceLT, Int.reduceNeg, Int.reduceLE, appendP, appendAt, letGo, setLoc, locVal, Int.reduceToNat, boxCells, und, TG, strP_eql, hne, hl, i0, i1, c1', c2', l1, l2, c3', c4']
                rfl
              | x :: y :: r, hs =>
                have l2 : ¬ (((c :: d :: x :: y :: r : List UInt8).length : Int) < 4) := by simp only [List.length_cons, List.length_nil]; omega
                have i2 : indexV CC 9 (.str (c :: d :: x :: y :: r)) (.int .i64 2) = some (.int .u8 (x.toNat : Int)) := ixc (c :: d :: x :: y :: r) 2 x rfl
                have i3 : indexV CC 9 (.str (c :: d :: x :: y :: r)) (.int .i64 3) = some (.int .u8 (y.toNat : Int)) := ixc (c :: d :: x :: y :: r) 3 y rfl
                have e : nextL (c :: d :: x :: y :: r) = if d.toNat = 120 ∧ 0 ≤ hexV x ∧ 0 ≤ hexV y ∧ formN (hex2 x y) = [c, d, x, y] then (hex2 x y, 4) else (0, 0) := by
                  conv => lhs; unfold nextL
                  simp only
                  rw [if_neg c1, if_neg (by omega), if_neg (by omega)]
                rw [e]
                have hx := hexV_lt x
                have hy := hexV_lt y
                have hsl := sl_str_hi (c :: d :: x :: y :: r) 4 (by omega) (by simp only [List.length_cons]; omega)
                by_cases c5 : d.toNat = 120
                · have c5' : ((d.toNat : Int) != 120) = false := by simp [c5]
                  by_cases c6 : hexV x < 0
                  · rw [if_neg (by omega)]
                    have hl := len_str (c :: d :: x :: y :: r)
                    have l1 : (((c :: d :: x :: y :: r : List UInt8).length : Int) ≥ 2) := by simp only [List.length_cons, List.length_nil]; omega
                    generalize (c :: d :: x :: y :: r : List UInt8) = S at *
                    obtain ⟨ev, eo, so, co, ⟨hev, hco⟩, R⟩ := RULES CC; rw [← hev]; have o_names_hex := @op_names_hex; rw [← hco] at o_names_hex
                    simp only [fpart, part', Try.f52, Option.getD]
                    simp (maxSteps := 5000000) only [SA, SB, SD, R, guardAt, binP, intP, indexAddrP, elemsOf, readCells, lenP, lenAt, resultsP, resultP, oneOr, reduceCtorEq, reduceIte, Nat.reduceEqDiff, Nat.reduceAdd, Nat.zero_add, Nat.reduceMul, Nat.reduceLT, Nat.reduceLeDiff, Int.reduceLT, Int.reduceNeg, Int.reduceLE, appendP, appendAt, letGo, setLoc, locVal, Int.reduceToNat, boxCells, und, TG, strP_eql, hne, hl, i0, i1, i2, i3, c1', c2', l1, l2, c3', c4', c5', c6, o_names_hex]
                    rfl
                  · by_cases c7 : hexV y < 0
                    · rw [if_neg (by omega)]
                      have hl := len_str (c :: d :: x :: y :: r)
                      have l1 : (((c :: d :: x :: y :: r : List UInt8).length : Int) ≥ 2) := by simp only [List.length_cons, List.length_nil]; omega
                      generalize (c :: d :: x :: y :: r : List UInt8) = S at *
                      obtain ⟨ev, eo, so, co, ⟨hev, hco⟩, R⟩ := RULES CC; rw [← hev]; have o_names_hex := @op_names_hex; rw [← hco] at o_names_hex
                      simp only [fpart, part', Try.f52, Option.getD]
                      simp (maxSteps := 5000000) only [SA, SB, SD, R, guardAt, binP, intP, indexAddrP, elemsOf, readCells, lenP, lenAt, resultsP, resultP, oneOr, reduceCtorEq, reduceIte, Nat.reduceEqDiff, Nat.reduceAdd, Nat.zero_add, Nat.reduceMul, Nat.reduceLT, Nat.reduceLeDiff, Int.reduceLT, Int.reduceNeg, Int.reduceLE, appendP, appendAt, letGo, setLoc, locVal, Int.reduceToNat, boxCells, und, TG, strP_eql, hne, hl, i0, i1, i2, i3, c1', c2', l1, l2, c3', c4', c5', c6, c7, o_names_hex]
                      rfl
                    · have s1 := shl4 (a := hexV x) ⟨by omega, by omega⟩
                      have s2 := or_hex (a := hexV x) (b := hexV y) ⟨by omega, by omega⟩ ⟨by omega, by omega⟩
                      have s3 := conv_i_u8 (hexV x * 16 + hexV y) ⟨by omega, by omega⟩
                      have h2 : hexV x * 16 + hexV y = (hex2 x y : Int) := by unfold hex2; omega
                      have h256 : hex2 x y < 256 := by unfold hex2; omega
                      have hv : (UInt8.ofNat (hex2 x y)).toNat = hex2 x y := by rw [UInt8.toNat_ofNat']; omega
                      rw [h2] at s2 s3
                      generalize hex2 x y = v at *
                      have of1 := op_names_form (UInt8.ofNat v)
                      unfold formL at of1
                      rw [hv] at of1
                      by_cases c8 : formN v = [c, d, x, y]
                      · have c8' : (formN v == (c :: d :: x :: y :: r).take 4) = true := by rw [c8]; simp
                        rw [if_pos ⟨c5, by omega, by omega, c8⟩]
                        have hl := len_str (c :: d :: x :: y :: r)
                        have l1 : (((c :: d :: x :: y :: r : List UInt8).length : Int) ≥ 2) := by simp only [List.length_cons, List.length_nil]; omega
                        generalize (c :: d :: x :: y :: r : List UInt8) = S at *
                        obtain ⟨ev, eo, so, co, ⟨hev, hco⟩, R⟩ := RULES CC; rw [← hev]; have o_names_hex := @op_names_hex; rw [← hco] at o_names_hex
                        rw [← hco] at of1
                        simp only [fpart, part', Try.f52, Option.getD]
                        simp (maxSteps := 5000000) only [SA, SB, SD, R, guardAt, binP, intP, indexAddrP, elemsOf, readCells, lenP, lenAt, resultsP, resultP, oneOr, reduceCtorEq, reduceIte, Nat.reduceEqDiff, Nat.reduceAdd, Nat.zero_add, Nat.reduceMul, Nat.reduceLT, Nat.reduceLeDiff, Int.reduceLT, Int.reduceNeg, Int.reduceLE, appendP, appendAt, letGo, setLoc, locVal, Int.reduceToNat, boxCells, und, TG, strP_eql, strP_neq, hne, hl, i0, i1, i2, i3, c1', c2', l1, l2, c3', c4', c5', c6, c7, o_names_hex, s1, s2, s3, of1, hsl, c8']
                        rfl
                      · have c8' : (formN v == (c :: d :: x :: y :: r).take 4) = false := by simpa using c8
                        rw [if_neg (fun h => c8 h.2.2.2)]
                        have hl := len_str (c :: d :: x :: y :: r)
                        have l1 : (((c :: d :: x :: y :: r : List UInt8).length : Int) ≥ 2) := by simp only [List.length_cons, List.length_nil]; omega
                        generalize (c :: d :: x :: y :: r : List UInt8) = S at *
                        obtain ⟨ev, eo, so, co, ⟨hev, hco⟩, R⟩ := RULES CC; rw [← hev]; have o_names_hex := @op_names_hex; rw [← hco] at o_names_hex
                        rw [← hco] at of1
                        simp only [fpart, part', Try.f52, Option.getD]
                        simp (maxSteps := 5000000) only [SA, SB, SD, R, guardAt, binP, intP, indexAddrP, elemsOf, readCells, lenP, lenAt, resultsP, resultP, oneOr, reduceCtorEq, reduceIte, Nat.reduceEqDiff, Nat.reduceAdd, Nat.zero_add, Nat.reduceMul, Nat.reduceLT, Nat.reduceLeDiff, Int.reduceLT, Int.reduceNeg, Int.reduceLE, appendP, appendAt, letGo, setLoc, locVal, Int.reduceToNat, boxCells, und, TG, strP_eql, strP_neq, hne, hl, i0, i1, i2, i3, c1', c2', l1, l2, c3', c4', c5', c6, c7, o_names_hex, s1, s2, s3, of1, hsl, c8']
                        rfl
                · have c5' : ((d.toNat : Int) != 120) = true := by simp; omega
                  rw [if_neg (fun h => c5 h.1)]
                  have hl := len_str (c :: d :: x :: y :: r)
                  have l1 : (((c :: d :: x :: y :: r : List UInt8).length : Int) ≥ 2) := by simp only [List.length_cons, List.length_nil]; omega
                  generalize (c :: d :: x :: y :: r : List UInt8) = S at *
                  obtain ⟨ev, eo, so, co, ⟨hev, hco⟩, R⟩ := RULES CC; rw [← hev]; have o_names_hex := @op_names_hex; rw [← hco] at o_names_hex
                  simp only [fpart, part', Try.f52, Option.getD]
                  simp (maxSteps := 5000000) only [SA, SB, SD, R, guardAt, binP, intP, indexAddrP, elemsOf, readCells, lenP, lenAt, resultsP, resultP, oneOr, reduceCtorEq, reduceIte, Nat.reduceEqDiff, Nat.reduceAdd, Nat.zero_add, Nat.reduceMul, Nat.reduceLT, Nat.reduceLeDiff, Int.reduceLT, Int.reduceNeg, Int.reduceLE, appendP, appendAt, letGo, setLoc, locVal, Int.reduceToNat, boxCells, und, TG, strP_eql, hne, hl, i0, i1, i2, i3, c1', c2', l1, l2, c3', c4', c5', o_names_hex]
                  rfl
      · have c2' : ((c.toNat : Int) != 92) = true := by simp; omega
        have hsl := sl_str_hi (c :: r) 1 (by omega) (by simp only [List.length_cons]; omega)
        have e : nextL (c :: r) = if formL c = [c] then (c.toNat, 1) else (0, 0) := by
          conv => lhs; unfold nextL
          simp only
          rw [if_neg c1, if_pos c2]
        rw [e]
        obtain ⟨ev, eo, so, co, ⟨hev, hco⟩, R⟩ := RULES CC; rw [← hev]; have o_names_form := @op_names_form; rw [← hco] at o_names_form
        simp only [fpart, part', Try.f52, Option.getD]
        by_cases c3 : formL c = [c]
        · have c3' : (formL c == (c :: r).take 1) = true := by rw [c3]; simp
          rw [if_pos c3]
          simp (maxSteps := 5000000) only [SA, SB, SD, R, guardAt, binP, intP, indexAddrP, elemsOf, readCells, lenP, lenAt, resultsP, resultP, oneOr, reduceCtorEq, reduceIte, Nat.reduceEqDiff, Nat.reduceAdd, Nat.zero_add, Nat.reduceMul, Nat.reduceLT, Nat.reduceLeDiff, Int.reduceLT, Int.reduceNeg, Int.reduceLE, appendP, appendAt, letGo, setLoc, locVal, Int.reduceToNat, boxCells, und, TG, strP_eql, strP_neq, hne, i0, c1', c2', o_names_form, hsl, c3']
          rfl
        · have c3' : (formL c == (c :: r).take 1) = false := by simpa using c3
          rw [if_neg c3]
          simp (maxSteps := 5000000) only [SA, SB, SD, R, guardAt, binP, intP, indexAddrP, elemsOf, readCells, lenP, lenAt, resultsP, resultP, oneOr, reduceCtorEq, reduceIte, Nat.reduceEqDiff, Nat.reduceAdd, Nat.zero_add, Nat.reduceMul, Nat.reduceLT, Nat.reduceLeDiff, Int.reduceLT, Int.reduceNeg, Int.reduceLE, appendP, appendAt, letGo, setLoc, locVal, Int.reduceToNat, boxCells, und, TG, strP_eql, strP_neq, hne, i0, c1', c2', o_names_form, hsl, c3']
          rfl
theorem op_names_next (s : List UInt8) (hs : s.length ≤ 1000000) (bx) : callOp CC (callL CC) 52 [.str s] bx = some (.ret (.tup [.int .u8 ((nextL s).1 : Int), .int .i64 ((nextL s).2 : Int)]), bx) := callOp_of rfl (by simp only [SA, Bool.and_true]) (call_names_next s hs) rfl
end Go.HH
