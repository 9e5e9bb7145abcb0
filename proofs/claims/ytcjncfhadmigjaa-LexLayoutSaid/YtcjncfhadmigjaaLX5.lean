/-
  Quoted strings: the program's Unquote.
-/
import Derived.Test.YtcjncfhadmigjaaLX4
namespace Go.HH
open Go Go.Proofs
set_option maxRecDepth 100000
set_option linter.unusedSimpArgs false
set_option linter.unusedVariables false
def quotedL (s : List UInt8) : List UInt8 × Nat := if s.head? = some 34 then (match unqL s.length (s.drop 1) with
    | some (t, k) => (t, k + 2)
    | none => ([], 0)) else ([], 0)
/-- the text of a string in quotes, and the error -/
def unq (s : List UInt8) : List UInt8 × Int := if (quotedL s).2 = 0 ∨ (quotedL s).2 ≠ s.length then ([], 4) else if (quotedL s).1.length > 60 then ([], 3) else ((quotedL s).1, 0)
theorem zcB : zeroCells CC 62 = some [.nilp, .nils] := by kernel_rfl
theorem unqL_le : ∀ (m : Nat) (s : List UInt8) (t : List UInt8) (k : Nat), unqL m s = some (t, k) → t.length ≤ k ∧ k < s.length
  | 0, _, _, _, h => by cases h
  | m + 1, [], _, _, h => by cases h
  | m + 1, c :: r, t, k, h => by
    have hun : unqL (m + 1) (c :: r) = if c.toNat = 34 then some ([], 0) else if (nextL (c :: r)).2 = 0 then none else (unqL m ((c :: r).drop (nextL (c :: r)).2)).map fun x => (UInt8.ofNat (nextL (c :: r)).1 :: x.1, (nextL (c :: r)).2 + x.2) := rfl
    rw [hun] at h
    split at h
    · injection h with h
      injection h with h1 h2
      subst h1 h2
      simp
    · split at h
      · cases h
      · obtain ⟨⟨t', k'⟩, h1, h2⟩ := Option.map_eq_some_iff.1 h
        injection h2 with h2 h3
        subst h2 h3
        have := unqL_le m _ _ _ h1
        rw [List.length_drop] at this
        simp only [List.length_cons] at this ⊢
        omega
theorem quotedL_le (s : List UInt8) : (quotedL s).1.length ≤ s.length ∧ (quotedL s).2 ≤ s.length := by
  unfold quotedL
  split
  · rename_i h
    have hs : s ≠ [] := fun e => by subst e; cases h
    have hl : 0 < s.length := List.length_pos_iff.2 hs
    cases hu : unqL s.length (s.drop 1) with
    | none => simp
    | some tk =>
      obtain ⟨t, k⟩ := tk
      have := unqL_le _ _ _ _ hu
      rw [List.length_drop] at this
      simp only
      omega
  · simp
theorem call_names_quoted (s : List UInt8) (hs : s.length ≤ 900000) : ∃ bx, callL CC 46 [.str s] [] = some (.ret (.tup [.str (quotedL s).1, .int .i64 ((quotedL s).2 : Int)]), bx) := by
  rw [callL_enter (fn := Try.f46) (c := Try.f46.body.getD .skip) rfl rfl fat_names_quoted rfl ok_names_quoted (Nat.le_of_ble_eq_true rfl)]
  have hlen := len_str s
  unfold quotedL
  match s, hs with
  | [], _ =>
    obtain ⟨ev, eo, so, co, ⟨hev, hco⟩, R⟩ := RULES CC; rw [← hev]
    simp only [fpart, part', Try.f46, Option.getD]
    simp (maxSteps := 5000000) only [SA, SB, SD, R, guardAt, binP, intP, indexAddrP, elemsOf, readCells, lenP, lenAt, resultsP, resultP, oneOr, reduceCtorEq, reduceIte, Nat.reduceEqDiff, Nat.reduceAdd, Nat.zero_add, Nat.reduceMul, Nat.reduceLT, Nat.reduceLeDiff, Int.reduceLT, Int.reduceNeg, Int.reduceLE, appendP, appendAt, letGo, setLoc, locVal, Int.reduceToNat, boxCells, und, TG, SE, strP_eql]
    exact ⟨_, rfl⟩
  | c :: r, hs =>
    have i0 : indexV CC 9 (.str (c :: r)) (.int .i64 0) = some (.int .u8 (c.toNat : Int)) := ixc (c :: r) 0 c rfl
    have hne : ((c :: r : List UInt8) == []) = false := rfl
    have h34 : c = 34 ↔ c.toNat = 34 := by rw [← UInt8.toNat_inj]; rfl
    have hh : (c :: r).head? = some c := rfl
    rw [hh]
    by_cases c1 : c.toNat = 34
    · have c1' : ((c.toNat : Int) != 34) = false := by simp [c1]
      rw [if_pos (by rw [h34.2 c1])]
      have hloop := fun e h0 h4 h5 => loop_names_quoted _ rfl (c :: r) hs (c :: r).length 1 [] .nilp e (by simp only [List.length_cons]; omega) (by simp only [List.length_cons]; omega) (by simp) (Or.inl rfl) h0 h4 h5
      generalize hS : (c :: r : List UInt8) = S at *
      have hb0 : bufV [] = .nils := rfl
      rw [hb0] at hloop
      have hw : ∀ k : Nat, k ≤ S.length → IntKind.wrap .i64 ((k : Int) + 1) = (k : Int) + 1 := fun k hk => wrap_i64 ⟨by omega, by omega⟩
      have hstr := call_op_bString
      obtain ⟨ev, eo, so, co, ⟨hev, hco⟩, R⟩ := RULES CC; rw [← hev]
      rw [← hev] at hloop
      rw [← hco] at hstr
      simp only [fpart, part', Try.f46, Option.getD] at hloop ⊢
      simp (maxSteps := 5000000) only [SA, SB, SD, R, guardAt, binP, intP, indexAddrP, elemsOf, readCells, lenP, lenAt, resultsP, resultP, oneOr, reduceCtorEq, reduceIte, Nat.reduceEqDiff, Nat.reduceAdd, Nat.zero_add, Nat.reduceMul, Nat.reduceLT, Nat.reduceLeDiff, Int.reduceLT, Int.reduceNeg, Int.reduceLE, appendP, appendAt, letGo, setLoc, locVal, Int.reduceToNat, boxCells, und, TG, SE, SC, strP_eql, hne, i0, c1', zcB]
      generalize hE : ev _ ⟨_, [PBox.cells 62 [.nilp, .nils]]⟩ = res
      have hP : PQ S [] 1 (unqL S.length (S.drop 1)) res := by
        rw [← hE]
        exact hloop _ (by simp (maxSteps := 5000000) only [SA, SB, SD, R, guardAt, binP, intP, indexAddrP, elemsOf, readCells, lenP, lenAt, resultsP, resultP, oneOr, reduceCtorEq, reduceIte, Nat.reduceEqDiff, Nat.reduceAdd, Nat.zero_add, Nat.reduceMul, Nat.reduceLT, Nat.reduceLeDiff, Int.reduceLT, Int.reduceNeg, Int.reduceLE, appendP, appendAt, letGo, setLoc, locVal, Int.reduceToNat, boxCells, und]) (by simp (maxSteps := 5000000) only [SA, SB, SD, R, guardAt, binP, intP, indexAddrP, elemsOf, readCells, lenP, lenAt, resultsP, resultP, oneOr, reduceCtorEq, reduceIte, Nat.reduceEqDiff, Nat.reduceAdd, Nat.zero_add, Nat.reduceMul, Nat.reduceLT, Nat.reduceLeDiff, Int.reduceLT, Int.reduceNeg, Int.reduceLE, appendP, appendAt, letGo, setLoc, locVal, Int.reduceToNat, boxCells, und]) (by simp (maxSteps := 5000000) only [SA, SB, SD, R, guardAt, binP, intP, indexAddrP, elemsOf, readCells, lenP, lenAt, resultsP, resultP, oneOr, reduceCtorEq, reduceIte, Nat.reduceEqDiff, Nat.reduceAdd, Nat.zero_add, Nat.reduceMul, Nat.reduceLT, Nat.reduceLeDiff, Int.reduceLT, Int.reduceNeg, Int.reduceLE, appendP, appendAt, letGo, setLoc, locVal, Int.reduceToNat, boxCells, und]; rfl)
      clear hE hloop
      cases hu : unqL S.length (S.drop 1) with
      | some tk =>
        obtain ⟨t, k⟩ := tk
        rw [hu] at hP
        obtain ⟨e', p, he, g0, g4, g5, hlt⟩ := hP
        subst he
        have hge : ¬ ((1 + k : Nat) : Int) ≥ (S.length : Int) := by omega
        have hw1 := hw (1 + k) (by omega)
        have hst := hstr t p
        rw [List.nil_append]
        generalize hk1 : 1 + k = k1 at *
        have hk2 : ((k + 2 : Nat) : Int) = (k1 : Int) + 1 := by omega
        simp (maxSteps := 5000000) only [SA, SB, SD, R, guardAt, binP, intP, indexAddrP, elemsOf, readCells, lenP, lenAt, resultsP, resultP, oneOr, reduceCtorEq, reduceIte, Nat.reduceEqDiff, Nat.reduceAdd, Nat.zero_add, Nat.reduceMul, Nat.reduceLT, Nat.reduceLeDiff, Int.reduceLT, Int.reduceNeg, Int.reduceLE, appendP, appendAt, letGo, setLoc, locVal, Int.reduceToNat, boxCells, und, TG, SE, g0, g4, g5, hlen, hge, hst, hw1, hk2]
        exact ⟨_, rfl⟩
      | none =>
        rw [hu] at hP
        rcases hP with ⟨e', bx', he, g2, g3⟩ | ⟨e', bx', he, g0, g5⟩
        · subst he
          simp (maxSteps := 5000000) only [SA, SB, SD, R, guardAt, binP, intP, indexAddrP, elemsOf, readCells, lenP, lenAt, resultsP, resultP, oneOr, reduceCtorEq, reduceIte, Nat.reduceEqDiff, Nat.reduceAdd, Nat.zero_add, Nat.reduceMul, Nat.reduceLT, Nat.reduceLeDiff, Int.reduceLT, Int.reduceNeg, Int.reduceLE, appendP, appendAt, letGo, setLoc, locVal, Int.reduceToNat, boxCells, und, TG, SE, g2, g3]
          exact ⟨_, rfl⟩
        · subst he
          have hge : (S.length : Int) ≥ (S.length : Int) := Int.le_refl _
          simp (maxSteps := 5000000) only [SA, SB, SD, R, guardAt, binP, intP, indexAddrP, elemsOf, readCells, lenP, lenAt, resultsP, resultP, oneOr, reduceCtorEq, reduceIte, Nat.reduceEqDiff, Nat.reduceAdd, Nat.zero_add, Nat.reduceMul, Nat.reduceLT, Nat.reduceLeDiff, Int.reduceLT, Int.reduceNeg, Int.reduceLE, appendP, appendAt, letGo, setLoc, locVal, Int.reduceToNat, boxCells, und, TG, SE, g0, g5, hlen, hge]
          exact ⟨_, rfl⟩
    · have c1' : ((c.toNat : Int) != 34) = true := by simp; omega
      rw [if_neg (fun e => c1 (h34.1 (Option.some.inj e)))]
      obtain ⟨ev, eo, so, co, ⟨hev, hco⟩, R⟩ := RULES CC; rw [← hev]
      simp only [fpart, part', Try.f46, Option.getD]
      simp (maxSteps := 5000000) only [SA, SB, SD, R, guardAt, binP, intP, indexAddrP, elemsOf, readCells, lenP, lenAt, resultsP, resultP, oneOr, reduceCtorEq, reduceIte, Nat.reduceEqDiff, Nat.reduceAdd, Nat.zero_add, Nat.reduceMul, Nat.reduceLT, Nat.reduceLeDiff, Int.reduceLT, Int.reduceNeg, Int.reduceLE, appendP, appendAt, letGo, setLoc, locVal, Int.reduceToNat, boxCells, und, TG, SE, strP_eql, hne, i0, c1']
      exact ⟨_, rfl⟩
theorem op_names_quoted (s : List UInt8) (hs : s.length ≤ 900000) (bx) : callOp CC (callL CC) 46 [.str s] bx = some (.ret (.tup [.str (quotedL s).1, .int .i64 ((quotedL s).2 : Int)]), bx) := by
  obtain ⟨b, h⟩ := call_names_quoted s hs
  exact callOp_of rfl (by simp only [SA, Bool.and_true]) h (by simp only [SE, SA, Bool.and_true])
theorem call_names_Unquote (s : List UInt8) (hs : s.length ≤ 900000) : callL CC 41 [.str s] [] = some (.ret (.tup [.str (unq s).1, .int .i64 (unq s).2]), []) := by
  rw [callL_enter (fn := Try.f41) (c := Try.f41.body.getD .skip) rfl rfl fat_names_Unquote rfl ok_names_Unquote (Nat.le_of_ble_eq_true rfl)]
  have hlen := len_str s
  have hq := op_names_quoted s hs
  have hqt := len_str (quotedL s).1
  unfold unq
  generalize quotedL s = q at *
  obtain ⟨t, k⟩ := q
  simp only at hq hqt ⊢
  by_cases c1 : k = 0
  · subst c1
    have z : (((0 : Nat) : Int) == 0) = true := rfl
    rw [if_pos (Or.inl rfl)]
    obtain ⟨ev, eo, so, co, ⟨hev, hco⟩, R⟩ := RULES CC; rw [← hev]
    rw [← hco] at hq
    simp only [fpart, part', Try.f41, Option.getD]
    simp (maxSteps := 5000000) only [SA, SB, SD, R, guardAt, binP, intP, indexAddrP, elemsOf, readCells, lenP, lenAt, resultsP, resultP, oneOr, reduceCtorEq, reduceIte, Nat.reduceEqDiff, Nat.reduceAdd, Nat.zero_add, Nat.reduceMul, Nat.reduceLT, Nat.reduceLeDiff, Int.reduceLT, Int.reduceNeg, Int.reduceLE, appendP, appendAt, letGo, setLoc, locVal, Int.reduceToNat, boxCells, und, TG, SE, hq, z]
  · have c1' : ((k : Int) == 0) = false := by simp; omega
    by_cases c2 : k = s.length
    · have c2' : ((k : Int) != (s.length : Int)) = false := by simp [c2]
      rw [if_neg (by omega)]
      by_cases c3 : t.length > 60
      · have c3' : (t.length : Int) > 60 := by omega
        rw [if_pos c3]
        obtain ⟨ev, eo, so, co, ⟨hev, hco⟩, R⟩ := RULES CC; rw [← hev]
        rw [← hco] at hq
        simp only [fpart, part', Try.f41, Option.getD]
        simp (maxSteps := 5000000) only [SA, SB, SD, R, guardAt, binP, intP, indexAddrP, elemsOf, readCells, lenP, lenAt, resultsP, resultP, oneOr, reduceCtorEq, reduceIte, Nat.reduceEqDiff, Nat.reduceAdd, Nat.zero_add, Nat.reduceMul, Nat.reduceLT, Nat.reduceLeDiff, Int.reduceLT, Int.reduceNeg, Int.reduceLE, appendP, appendAt, letGo, setLoc, locVal, Int.reduceToNat, boxCells, und, TG, SE, hq, hlen, hqt, c1', c2', c3']
      · have c3' : ¬ (t.length : Int) > 60 := by omega
        rw [if_neg c3]
        obtain ⟨ev, eo, so, co, ⟨hev, hco⟩, R⟩ := RULES CC; rw [← hev]
        rw [← hco] at hq
        simp only [fpart, part', Try.f41, Option.getD]
        simp (maxSteps := 5000000) only [SA, SB, SD, R, guardAt, binP, intP, indexAddrP, elemsOf, readCells, lenP, lenAt, resultsP, resultP, oneOr, reduceCtorEq, reduceIte, Nat.reduceEqDiff, Nat.reduceAdd, Nat.zero_add, Nat.reduceMul, Nat.reduceLT, Nat.reduceLeDiff, Int.reduceLT, Int.reduceNeg, Int.reduceLE, appendP, appendAt, letGo, setLoc, locVal, Int.reduceToNat, boxCells, und, TG, SE, hq, hlen, hqt, c1', c2', c3']
    · have c2' : ((k : Int) != (s.length : Int)) = true := by simp; omega
      rw [if_pos (Or.inr c2)]
      obtain ⟨ev, eo, so, co, ⟨hev, hco⟩, R⟩ := RULES CC; rw [← hev]
      rw [← hco] at hq
      simp only [fpart, part', Try.f41, Option.getD]
      simp (maxSteps := 5000000) only [SA, SB, SD, R, guardAt, binP, intP, indexAddrP, elemsOf, readCells, lenP, lenAt, resultsP, resultP, oneOr, reduceCtorEq, reduceIte, Nat.reduceEqDiff, Nat.reduceAdd, Nat.zero_add, Nat.reduceMul, Nat.reduceLT, Nat.reduceLeDiff, Int.reduceLT, Int.reduceNeg, Int.reduceLE, appendP, appendAt, letGo, setLoc, locVal, Int.reduceToNat, boxCells, und, TG, SE, hq, hlen, c1', c2']
theorem op_names_Unquote (s : List UInt8) (hs : s.length ≤ 900000) (bx) : callOp CC (callL CC) 41 [.str s] bx = some (.ret (.tup [.str (unq s).1, .int .i64 (unq s).2]), bx) := callOp_of rfl (by simp only [SA, Bool.and_true]) (call_names_Unquote s hs) (by simp only [SE, SA, Bool.and_true])
end Go.HH
