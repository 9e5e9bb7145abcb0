/-
  Quoted strings: the program's Quote, with Builder.WriteString.
-/
import Derived.Test.YtedpmedialplkaaDoorVQ2
namespace Go.HH
open Go Go.Proofs
set_option maxRecDepth 100000
set_option linter.unusedSimpArgs false
set_option linter.unusedVariables false
theorem ok_strings_Builder_WriteString : fnOK CC Tryd.f74 (Tryd.f74.body.getD .skip) = true := by kernel_rfl
theorem fat_strings_Builder_WriteString : CC.P.funcs[74]? = some Tryd.f74 := by kernel_rfl
theorem ok_names_Quote : fnOK CC Tryd.f59 (Tryd.f59.body.getD .skip) = true := by kernel_rfl
theorem fat_names_Quote : CC.P.funcs[59]? = some Tryd.f59 := by kernel_rfl
def strEl : PV → Option (List PV)
  | .str w => some (bys w)
  | _ => none
theorem ap_str (st : St) (al : List (Nat × Loc)) (s x : Operand) (d : Option Tmp) : appendOn CC st al s x 62 9 d = match appendAt CC st al 5 s, strEl (opd CC st.env x) with
      | some (l, xs), some ys => appK 1 1 5 st al l xs ys d
      | _, _ => none := by
  have h0 : CC.P.underlying 62 = some (.slice 5) := by kernel_rfl
  have h1 : CC.P.underlying 9 = some .string := by kernel_rfl
  have he : CC.P.underlying 5 = some (.int .u8) := by kernel_rfl
  have hi : CC.P.info? 5 = some IB := by kernel_rfl
  have hz : IB.zero = some (.int .u8 0) := by kernel_rfl
  have hs : IB.size = 1 := by kernel_rfl
  have hb : IB.bytes = 1 := by kernel_rfl
  have hzc : (Value.int .u8 0).cells.size = 1 := rfl
  unfold appendOn newElems appK strEl bys
  simp only [h0, hi, h1, he, hz, hs, hb, Option.isNone_some, Bool.false_eq_true, false_or, Option.map_some, hzc, ne_eq, not_true_eq_false, or_false, Nat.one_ne_zero, if_true]
  cases appendAt CC st al 5 s with
  | none => rfl
  | some p =>
    obtain ⟨l, xs⟩ := p
    cases opd CC st.env x <;> rfl
theorem call_WriteString (l w : List UInt8) (hl : l.length + w.length ≤ 900000) (hw : w ≠ []) (p : PV) (hp : p = .nilp ∨ p = .bp 0 0) : callL CC 74 [.bp 0 0, .str w] [.cells 82 [p, bufV l]] =
    some (.ret (.tup [.int .i64 (w.length : Int), .nili]), [.cells 82 [.bp 0 0, .osl 5 (bys (l ++ w))]]) := by
  rw [callL_enter (fn := Tryd.f74) (c := Tryd.f74.body.getD .skip) rfl rfl fat_strings_Builder_WriteString rfl ok_strings_Builder_WriteString (Nat.le_of_ble_eq_true rfl)]
  have hbl := bys_length l
  have hwl := bys_length w
  have hlen := len_str w
  have hq : (bufV l).under 1 = true := by
    unfold bufV
    split
    · rfl
    · simpa [PV.under] using underL_bys 1 l
  have ho := op_copyCheck p hp (bufV l) hq
  have hsn := bys_append l w
  have hok := bys_all w
  have hc : (bys l).length + (bys w).length ≤ 1000000 := by omega
  have hc0 : (bys w).length ≤ 1000000 := by omega
  rw [hsn]
  obtain ⟨ev, eo, so, co, ⟨hev, hco⟩, R⟩ := RULES CC; rw [← hev]
  rw [← hco] at ho
  have hpn : pureL [.bp 0 0] = false := rfl
  simp only [fpart, part', Tryd.f74, Option.getD]
  unfold bufV at *
  by_cases h : l = []
  · subst h
    rw [if_pos rfl] at ho ⊢
    have hb0 : bys [] = [] := rfl
    rw [hb0] at *
    generalize hys : bys w = ys at *
    simp (maxSteps := 5000000) only [SA, SB, SD, R, guardAt, binP, intP, indexAddrP, elemsOf, readCells, lenP, lenAt, resultsP, resultP, oneOr, reduceCtorEq, reduceIte, Nat.reduceEqDiff, Nat.reduceAdd, Nat.zero_add, Nat.reduceMul, Nat.reduceLT, Nat.reduceLeDiff, Int.reduceLT, Int.reduceNeg, Int.reduceLE, appendP, appendAt, letGo, setLoc, locVal, Int.reduceToNat, boxCells, und, TG, SE, ho, hlen, strEl, hys, loadR, loadP, storeR, storeCellsP, laid, lay, setBox, nchP, callAl, List.filter_nil, List.getD_cons_succ, List.getD_cons_zero, ap_str, hok, hc, hc0, List.nil_append, List.length_nil, Nat.zero_add, List.set_cons_zero, List.set_cons_succ, List.take_succ_cons, List.take_zero, List.drop_nil, Nat.le_refl]
    rfl
  · rw [if_neg h] at ho ⊢
    generalize hys : bys w = ys at *
    generalize bys l = xs at *
    simp (maxSteps := 5000000) only [SA, SB, SD, R, guardAt, binP, intP, indexAddrP, elemsOf, readCells, lenP, lenAt, resultsP, resultP, oneOr, reduceCtorEq, reduceIte, Nat.reduceEqDiff, Nat.reduceAdd, Nat.zero_add, Nat.reduceMul, Nat.reduceLT, Nat.reduceLeDiff, Int.reduceLT, Int.reduceNeg, Int.reduceLE, appendP, appendAt, letGo, setLoc, locVal, Int.reduceToNat, boxCells, und, TG, SE, ho, hlen, strEl, hys, loadR, loadP, storeR, storeCellsP, laid, lay, setBox, nchP, callAl, List.filter_nil, List.getD_cons_succ, List.getD_cons_zero, ap_str, hok, hc, List.set_cons_zero, List.set_cons_succ, List.take_succ_cons, List.take_zero, List.drop_nil, Nat.le_refl]
    rfl
theorem call_op_WriteString (l w : List UInt8) (hl : l.length + w.length ≤ 900000) (hw : w ≠ []) (p : PV) (hp : p = .nilp ∨ p = .bp 0 0) : callOp CC (callL CC) 74 [.bp 0 0, .str w] [.cells 82 [p, bufV l]] =
    some (.ret (.tup [.int .i64 (w.length : Int), .nili]), [.cells 82 [.bp 0 0, bufV (l ++ w)]]) := by
  have h := call_WriteString l w hl hw p hp
  unfold callOp
  rw [if_pos (by rfl), h]
  have hb : bufV (l ++ w) = .osl 5 (bys (l ++ w)) := by
    unfold bufV
    rw [if_neg (by simp [hw])]
  rw [hb]
  simp only
  rw [truncB_same (by simp)]
theorem formL_ne (c : UInt8) : formL c ≠ [] := fun h => by have := formL_pos c; rw [h] at this; exact absurd this (by decide)
theorem loop_names_Quote (L : Code) (hL : L = fpart Tryd.f59 [1,1,1,0,1,0]) (s : List UInt8) (hs : s.length ≤ 200000) : ∀ (k i : Nat) (acc : List UInt8) (e : List PV), i + k = s.length → acc.length ≤ 1 + 4 * i → getT e 0 = .str s → getT e 3 = .bp 0 0 → getT e 7 = .int .i64 s.length → getT e 8 = .int .i64 i →
    ∃ e', evL CC L ⟨e, [.cells 82 [.bp 0 0, bufV acc]]⟩ = some (.exit 0, ⟨e', [.cells 82 [.bp 0 0, bufV (acc ++ (s.drop i).flatMap formL)]]⟩) ∧ getT e' 3 = .bp 0 0 := by
  intro k
  induction k with
  | zero =>
    intro i acc e hk ha h0 h3 h7 h8
    rw [evL_at (fpart Tryd.f59 [1,1,1,0,1,0,0]) hL]
    have hi : ¬ ((i : Int) < (s.length : Int)) := by omega
    rw [List.drop_eq_nil_of_le (by omega), List.flatMap_nil, List.append_nil]
    generalize bufV acc = b at *
    obtain ⟨ev, eo, so, co, ⟨hev, hco⟩, R⟩ := RULES CC; rw [← hev]
    simp only [fpart, part', Tryd.f59, Option.getD]
    simp (maxSteps := 5000000) only [SA, SB, SD, R, guardAt, binP, intP, indexAddrP, elemsOf, readCells, lenP, lenAt, resultsP, resultP, oneOr, reduceCtorEq, reduceIte, Nat.reduceEqDiff, Nat.reduceAdd, Nat.zero_add, Nat.reduceMul, Nat.reduceLT, Nat.reduceLeDiff, Int.reduceLT, Int.reduceNeg, Int.reduceLE, appendP, appendAt, letGo, setLoc, locVal, Int.reduceToNat, boxCells, und, TG, SE, h7, h8, hi]
    exact ⟨_, rfl, by simp (maxSteps := 5000000) only [SA, SB, SD, R, guardAt, binP, intP, indexAddrP, elemsOf, readCells, lenP, lenAt, resultsP, resultP, oneOr, reduceCtorEq, reduceIte, Nat.reduceEqDiff, Nat.reduceAdd, Nat.zero_add, Nat.reduceMul, Nat.reduceLT, Nat.reduceLeDiff, Int.reduceLT, Int.reduceNeg, Int.reduceLE, appendP, appendAt, letGo, setLoc, locVal, Int.reduceToNat, boxCells, und, h3]⟩
  | succ k ih =>
    intro i acc e hk ha h0 h3 h7 h8
    rw [evL_at (fpart Tryd.f59 [1,1,1,0,1,0,0]) hL]
    have hi : ((i : Int) < (s.length : Int)) := by omega
    have hdr : s.drop i = (s[i]'(by omega)) :: s.drop (i + 1) := List.drop_eq_getElem_cons (by omega)
    have hx : s[i]? = some (s[i]'(by omega)) := by simp
    generalize s[i]'(by omega) = c at *
    have hix := ix_str s i c hx
    have hf := op_names_form c
    have hle := formL_le c
    have hwr := call_op_WriteString acc (formL c) (by omega) (formL_ne c) (.bp 0 0) (.inr rfl)
    have w1 := wrap_i64 (n := (i : Int) + 1) ⟨by omega, by omega⟩
    have cast1 : ((i + 1 : Nat) : Int) = (i : Int) + 1 := by omega
    have key := fun e => ih (i + 1) (acc ++ formL c) e (by omega) (by rw [List.length_append]; omega)
    rw [cast1] at key
    rw [hdr, List.flatMap_cons, ← List.append_assoc]
    generalize formL c = f at *
    generalize bufV (acc ++ f ++ (s.drop (i + 1)).flatMap formL) = b2 at *
    generalize bufV (acc ++ f) = b1 at *
    generalize bufV acc = b at *
    obtain ⟨ev, eo, so, co, ⟨hev, hco⟩, R⟩ := RULES CC; rw [← hev]
    rw [← hev] at key
    rw [← hco] at hf hwr
    simp only [fpart, part', Tryd.f59, Option.getD]
    simp (maxSteps := 5000000) only [SA, SB, SD, R, guardAt, binP, intP, indexAddrP, elemsOf, readCells, lenP, lenAt, resultsP, resultP, oneOr, reduceCtorEq, reduceIte, Nat.reduceEqDiff, Nat.reduceAdd, Nat.zero_add, Nat.reduceMul, Nat.reduceLT, Nat.reduceLeDiff, Int.reduceLT, Int.reduceNeg, Int.reduceLE, appendP, appendAt, letGo, setLoc, locVal, Int.reduceToNat, boxCells, und, TG, SE, h0, h3, h7, h8, hi, hix, hf, hwr, w1]
    refine key _ ?_ ?_ ?_ ?_
    · simp (maxSteps := 5000000) only [SA, SB, SD, R, guardAt, binP, intP, indexAddrP, elemsOf, readCells, lenP, lenAt, resultsP, resultP, oneOr, reduceCtorEq, reduceIte, Nat.reduceEqDiff, Nat.reduceAdd, Nat.zero_add, Nat.reduceMul, Nat.reduceLT, Nat.reduceLeDiff, Int.reduceLT, Int.reduceNeg, Int.reduceLE, appendP, appendAt, letGo, setLoc, locVal, Int.reduceToNat, boxCells, und, h0]
    · simp (maxSteps := 5000000) only [SA, SB, SD, R, guardAt, binP, intP, indexAddrP, elemsOf, readCells, lenP, lenAt, resultsP, resultP, oneOr, reduceCtorEq, reduceIte, Nat.reduceEqDiff, Nat.reduceAdd, Nat.zero_add, Nat.reduceMul, Nat.reduceLT, Nat.reduceLeDiff, Int.reduceLT, Int.reduceNeg, Int.reduceLE, appendP, appendAt, letGo, setLoc, locVal, Int.reduceToNat, boxCells, und, h3]
    · simp (maxSteps := 5000000) only [SA, SB, SD, R, guardAt, binP, intP, indexAddrP, elemsOf, readCells, lenP, lenAt, resultsP, resultP, oneOr, reduceCtorEq, reduceIte, Nat.reduceEqDiff, Nat.reduceAdd, Nat.zero_add, Nat.reduceMul, Nat.reduceLT, Nat.reduceLeDiff, Int.reduceLT, Int.reduceNeg, Int.reduceLE, appendP, appendAt, letGo, setLoc, locVal, Int.reduceToNat, boxCells, und, h7]
    · simp (maxSteps := 5000000) only [SA, SB, SD, R, guardAt, binP, intP, indexAddrP, elemsOf, readCells, lenP, lenAt, resultsP, resultP, oneOr, reduceCtorEq, reduceIte, Nat.reduceEqDiff, Nat.reduceAdd, Nat.zero_add, Nat.reduceMul, Nat.reduceLT, Nat.reduceLeDiff, Int.reduceLT, Int.reduceNeg, Int.reduceLE, appendP, appendAt, letGo, setLoc, locVal, Int.reduceToNat, boxCells, und]
theorem call_names_Quote (s : List UInt8) (hs : s.length ≤ 200000) : ∃ bx, callL CC 59 [.str s] [] = some (.ret (.str (quoteL s)), bx) := by
  rw [callL_enter (fn := Tryd.f59) (c := Tryd.f59.body.getD .skip) rfl rfl fat_names_Quote rfl ok_names_Quote (Nat.le_of_ble_eq_true rfl)]
  have hlen := len_str s
  have hfl := flat_le s
  have hb0 : bufV [] = .nils := rfl
  have w0 := call_op_WriteString [] [34] (by simp) (by simp) .nilp (.inl rfl)
  rw [hb0, List.nil_append] at w0
  have hloop := fun e => loop_names_Quote _ rfl s hs s.length 0 [34] e (by omega) (by simp)
  rw [List.drop_zero] at hloop
  have w9 := call_op_WriteString ([34] ++ s.flatMap formL) [34] (by simp only [List.length_append, List.length_singleton]; omega) (by simp) (.bp 0 0) (.inr rfl)
  have hq : [34] ++ s.flatMap formL ++ [34] = quoteL s := by unfold quoteL; simp
  rw [hq] at w9
  have hst := call_op_bString (quoteL s) (.bp 0 0)
  generalize quoteL s = q at *
  generalize bufV ([34] ++ s.flatMap formL) = b2 at *
  generalize bufV [34] = b1 at *
  generalize bufV q = b3 at *
  obtain ⟨ev, eo, so, co, ⟨hev, hco⟩, R⟩ := RULES CC; rw [← hev]
  rw [← hev] at hloop
  rw [← hco] at w0 w9 hst
  simp only [fpart, part', Tryd.f59, Option.getD] at hloop ⊢
  simp (maxSteps := 5000000) only [SA, SB, SD, R, guardAt, binP, intP, indexAddrP, elemsOf, readCells, lenP, lenAt, resultsP, resultP, oneOr, reduceCtorEq, reduceIte, Nat.reduceEqDiff, Nat.reduceAdd, Nat.zero_add, Nat.reduceMul, Nat.reduceLT, Nat.reduceLeDiff, Int.reduceLT, Int.reduceNeg, Int.reduceLE, appendP, appendAt, letGo, setLoc, locVal, Int.reduceToNat, boxCells, und, TG, SE, SC, zcB, hlen, w0]
  generalize hE : ev _ _ = z
  have hP : ∃ e', z = some (.exit 0, ⟨e', [.cells 82 [.bp 0 0, b2]]⟩) ∧ getT e' 3 = .bp 0 0 := by
    rw [← hE]
    refine hloop _ ?_ ?_ ?_ ?_
    · simp (maxSteps := 5000000) only [SA, SB, SD, R, guardAt, binP, intP, indexAddrP, elemsOf, readCells, lenP, lenAt, resultsP, resultP, oneOr, reduceCtorEq, reduceIte, Nat.reduceEqDiff, Nat.reduceAdd, Nat.zero_add, Nat.reduceMul, Nat.reduceLT, Nat.reduceLeDiff, Int.reduceLT, Int.reduceNeg, Int.reduceLE, appendP, appendAt, letGo, setLoc, locVal, Int.reduceToNat, boxCells, und]
    · simp (maxSteps := 5000000) only [SA, SB, SD, R, guardAt, binP, intP, indexAddrP, elemsOf, readCells, lenP, lenAt, resultsP, resultP, oneOr, reduceCtorEq, reduceIte, Nat.reduceEqDiff, Nat.reduceAdd, Nat.zero_add, Nat.reduceMul, Nat.reduceLT, Nat.reduceLeDiff, Int.reduceLT, Int.reduceNeg, Int.reduceLE, appendP, appendAt, letGo, setLoc, locVal, Int.reduceToNat, boxCells, und]
    · simp (maxSteps := 5000000) only [SA, SB, SD, R, guardAt, binP, intP, indexAddrP, elemsOf, readCells, lenP, lenAt, resultsP, resultP, oneOr, reduceCtorEq, reduceIte, Nat.reduceEqDiff, Nat.reduceAdd, Nat.zero_add, Nat.reduceMul, Nat.reduceLT, Nat.reduceLeDiff, Int.reduceLT, Int.reduceNeg, Int.reduceLE, appendP, appendAt, letGo, setLoc, locVal, Int.reduceToNat, boxCells, und]
    · simp (maxSteps := 5000000) only [SA, SB, SD, R, guardAt, binP, intP, indexAddrP, elemsOf, readCells, lenP, lenAt, resultsP, resultP, oneOr, reduceCtorEq, reduceIte, Nat.reduceEqDiff, Nat.reduceAdd, Nat.zero_add, Nat.reduceMul, Nat.reduceLT, Nat.reduceLeDiff, Int.reduceLT, Int.reduceNeg, Int.reduceLE, appendP, appendAt, letGo, setLoc, locVal, Int.reduceToNat, boxCells, und]; rfl
  obtain ⟨e', he, g3⟩ := hP
  subst he
  simp (maxSteps := 5000000) only [SA, SB, SD, R, guardAt, binP, intP, indexAddrP, elemsOf, readCells, lenP, lenAt, resultsP, resultP, oneOr, reduceCtorEq, reduceIte, Nat.reduceEqDiff, Nat.reduceAdd, Nat.zero_add, Nat.reduceMul, Nat.reduceLT, Nat.reduceLeDiff, Int.reduceLT, Int.reduceNeg, Int.reduceLE, appendP, appendAt, letGo, setLoc, locVal, Int.reduceToNat, boxCells, und, TG, SE, g3, w9, hst]
  exact ⟨_, rfl⟩
theorem op_names_Quote (s : List UInt8) (hs : s.length ≤ 200000) (bx) : callOp CC (callL CC) 59 [.str s] bx = some (.ret (.str (quoteL s)), bx) := by
  obtain ⟨b, h⟩ := call_names_Quote s hs
  exact callOp_of rfl (by simp only [SA, Bool.and_true]) h rfl
end Go.HH
