/-
  Tokens: the loop.
-/
import Derived.Test.YtcjncfhadmigjaaLX10
namespace Go.HH
open Go Go.Proofs
set_option maxRecDepth 100000
set_option linter.unusedSimpArgs false
set_option linter.unusedVariables false
theorem TKs : ∃ f, CC.P.underlying 32 = some (.struct f) := ⟨(match Try.prog.underlying 32 with | some (.struct f) => f | _ => #[]), by kernel_rfl⟩
theorem buildTk2 (n : Int) : buildP CC 32 [(0, .int .i64 0), (2, .int .i64 n)] = some (.agg [.int .i64 0, .str [], .int .i64 n]) := by
  have h := (by kernel_rfl : CC.P.underlying 32 = some (.struct ((match Try.prog.underlying 32 with | some (.struct f) => f | _ => #[]))))
  have hz : tZero CC 32 = some (.agg [.int .i64 0, .str [], .int .i64 0]) := by kernel_rfl
  have hp : ((match Try.prog.underlying 32 with | some (.struct f) => f | _ => #[]) : Array Field).toList.mapM (fun f => (tSize CC f.type).map fun s => (f.offset, s)) = some [(0, 1), (1, 1), (2, 1)] := by kernel_rfl
  unfold buildP
  rw [h, hz]
  simp only [hp]
  rfl
/-- what the loop comes to: the tokens, or a return with an error -/
def PTk (s : List UInt8) (v : List Tk × Nat × Int) (r : Option (Ex × St)) : Prop :=
  ∃ e' bx', (r = some (.exit 0, ⟨e', bx'⟩) ∧ v.2 = (0, 0) ∧ ∃ acc, acc.length ≤ 4000 ∧ v.1 = acc ++ [(0, [], s.length)] ∧ getT e' 5 = .osl 32 (tkVs acc) ∧ getT e' 0 = .str s) ∨
    (r = some (.ret, ⟨e', bx'⟩) ∧ v.1 = [] ∧ getT e' 2 = .osl 32 [] ∧ getT e' 3 = .int .i64 (v.2.1 : Int) ∧ getT e' 4 = .int .i64 v.2.2)
theorem loop_lex_Tokens (L : Code) (hL : L = fpart Try.f10 [1,1,1,0,1,0]) (s : List UInt8) (hs : s.length ≤ 900000) : ∀ (m i : Nat) (acc : List Tk) (e : List PV) (bx : List PBox), s.length - i < m → i ≤ s.length → acc.length ≤ 4000 → getT e 0 = .str s → getT e 5 = .osl 32 (tkVs acc) → getT e 6 = .int .i64 i →
    PTk s (toksL m s i acc) (evL CC L ⟨e, bx⟩) := by
  intro m
  induction m with
  | zero => intro i acc e bx hm; omega
  | succ m ih =>
    intro i acc e bx hm hi ha h0 h5 h6
    rw [evL_at (fpart Try.f10 [1,1,1,0,1,0,0]) hL]
    have hlen := len_str s
    have htk : toksL (m + 1) s i acc = if i < s.length then
      (if acc.length = 4000 then ([], i, 3) else match oneL s i with
        | .inr c => ([], i, c)
        | .inl (t, k) => toksL m s (skipL (s.length + 1) s k) (acc ++ [t]))
      else (acc ++ [(0, [], s.length)], 0, 0) := rfl
    rw [htk]
    obtain ⟨tu, htu⟩ := TKs
    have hgl : ∀ (bx : List PBox) (b : PBox), (bx ++ [b])[bx.length]? = some b := fun bx b => by simp
    have hla : ∀ (e : List PV) (o : Operand), True := fun _ _ => trivial
    by_cases hlt : i < s.length
    · have hil : (i : Int) < (s.length : Int) := by omega
      rw [if_pos hlt]
      have hl0 : (tkVs acc).length = acc.length := by unfold tkVs; rw [List.length_map]
      by_cases c1 : acc.length = 4000
      · rw [if_pos c1]
        have hl : ((((tkVs acc).length : Nat) : Int) == 4000) = true := by rw [hl0, c1]; rfl
        generalize tkVs acc = xs at *
        obtain ⟨ev, eo, so, co, ⟨hev, hco⟩, R⟩ := RULES CC; rw [← hev]
        simp only [fpart, part', Try.f10, Option.getD]
        simp (maxSteps := 5000000) only [SA, SB, SD, R, guardAt, binP, intP, indexAddrP, elemsOf, readCells, lenP, lenAt, resultsP, resultP, oneOr, reduceCtorEq, reduceIte, Nat.reduceEqDiff, Nat.reduceAdd, Nat.zero_add, Nat.reduceMul, Nat.reduceLT, Nat.reduceLeDiff, Int.reduceLT, Int.reduceNeg, Int.reduceLE, appendP, appendAt, letGo, setLoc, locVal, Int.reduceToNat, boxCells, und, TG, SE, h0, h5, h6, hlen, hil, hl]
        exact ⟨_, _, Or.inr ⟨rfl, rfl, by simp (maxSteps := 5000000) only [SA, SB, SD, R, guardAt, binP, intP, indexAddrP, elemsOf, readCells, lenP, lenAt, resultsP, resultP, oneOr, reduceCtorEq, reduceIte, Nat.reduceEqDiff, Nat.reduceAdd, Nat.zero_add, Nat.reduceMul, Nat.reduceLT, Nat.reduceLeDiff, Int.reduceLT, Int.reduceNeg, Int.reduceLE, appendP, appendAt, letGo, setLoc, locVal, Int.reduceToNat, boxCells, und], by simp (maxSteps := 5000000) only [SA, SB, SD, R, guardAt, binP, intP, indexAddrP, elemsOf, readCells, lenP, lenAt, resultsP, resultP, oneOr, reduceCtorEq, reduceIte, Nat.reduceEqDiff, Nat.reduceAdd, Nat.zero_add, Nat.reduceMul, Nat.reduceLT, Nat.reduceLeDiff, Int.reduceLT, Int.reduceNeg, Int.reduceLE, appendP, appendAt, letGo, setLoc, locVal, Int.reduceToNat, boxCells, und], by simp (maxSteps := 5000000) only [SA, SB, SD, R, guardAt, binP, intP, indexAddrP, elemsOf, readCells, lenP, lenAt, resultsP, resultP, oneOr, reduceCtorEq, reduceIte, Nat.reduceEqDiff, Nat.reduceAdd, Nat.zero_add, Nat.reduceMul, Nat.reduceLT, Nat.reduceLeDiff, Int.reduceLT, Int.reduceNeg, Int.reduceLE, appendP, appendAt, letGo, setLoc, locVal, Int.reduceToNat, boxCells, und]⟩⟩
      · rw [if_neg c1]
        have hl : ((((tkVs acc).length : Nat) : Int) == 4000) = false := by rw [hl0, beq_eq_false_iff_ne]; omega
        cases ho : oneL s i with
        | inr c =>
          obtain ⟨u, hone⟩ := op_lex_one_err s hs i hlt c ho
          have hc0 : (c != 0) = true := by
            have := oneL_err ho
            rw [bne_iff_ne]; omega
          generalize tkVs acc = xs at *
          obtain ⟨ev, eo, so, co, ⟨hev, hco⟩, R⟩ := RULES CC; rw [← hev]
          rw [← hco] at hone
          simp only [fpart, part', Try.f10, Option.getD]
          simp (maxSteps := 5000000) only [SA, SB, SD, R, guardAt, binP, intP, indexAddrP, elemsOf, readCells, lenP, lenAt, resultsP, resultP, oneOr, reduceCtorEq, reduceIte, Nat.reduceEqDiff, Nat.reduceAdd, Nat.zero_add, Nat.reduceMul, Nat.reduceLT, Nat.reduceLeDiff, Int.reduceLT, Int.reduceNeg, Int.reduceLE, appendP, appendAt, letGo, setLoc, locVal, Int.reduceToNat, boxCells, und, TG, SE, SC, TKf, htu, h0, h5, h6, hlen, hil, hl, hone, hc0, loadR, loadP, lay, List.take_succ_cons, List.take_zero, List.drop_nil, List.filter_nil, List.cons_append, extP, List.append_assoc, hgl]
          exact ⟨_, _, Or.inr ⟨rfl, rfl, by simp (maxSteps := 5000000) only [SA, SB, SD, R, guardAt, binP, intP, indexAddrP, elemsOf, readCells, lenP, lenAt, resultsP, resultP, oneOr, reduceCtorEq, reduceIte, Nat.reduceEqDiff, Nat.reduceAdd, Nat.zero_add, Nat.reduceMul, Nat.reduceLT, Nat.reduceLeDiff, Int.reduceLT, Int.reduceNeg, Int.reduceLE, appendP, appendAt, letGo, setLoc, locVal, Int.reduceToNat, boxCells, und], by simp (maxSteps := 5000000) only [SA, SB, SD, R, guardAt, binP, intP, indexAddrP, elemsOf, readCells, lenP, lenAt, resultsP, resultP, oneOr, reduceCtorEq, reduceIte, Nat.reduceEqDiff, Nat.reduceAdd, Nat.zero_add, Nat.reduceMul, Nat.reduceLT, Nat.reduceLeDiff, Int.reduceLT, Int.reduceNeg, Int.reduceLE, appendP, appendAt, letGo, setLoc, locVal, Int.reduceToNat, boxCells, und], by simp (maxSteps := 5000000) only [SA, SB, SD, R, guardAt, binP, intP, indexAddrP, elemsOf, readCells, lenP, lenAt, resultsP, resultP, oneOr, reduceCtorEq, reduceIte, Nat.reduceEqDiff, Nat.reduceAdd, Nat.zero_add, Nat.reduceMul, Nat.reduceLT, Nat.reduceLeDiff, Int.reduceLT, Int.reduceNeg, Int.reduceLE, appendP, appendAt, letGo, setLoc, locVal, Int.reduceToNat, boxCells, und]⟩⟩
        | inl x =>
          obtain ⟨tk, k⟩ := x
          dsimp only
          have hone := op_lex_one_ok s hs i hlt tk k ho
          have hbd := oneL_bd hlt ho
          have hsk := op_lex_skip s hs k hbd.2
          have hge := skipL_ge (s.length + 1) s k hbd.2
          have hih := fun e bx => ih (skipL (s.length + 1) s k) (acc ++ [tk]) e bx (by omega) hge.2 (by rw [List.length_append, List.length_singleton]; omega)
          have hc0 : ((0 : Int) != 0) = false := rfl
          have hbs := bsTk' tk
          have hok := okTk tk
          have hap : tkVs (acc ++ [tk]) = tkVs acc ++ tkVs [tk] := by simp only [tkVs, List.map_append]
          rw [hap] at hih
          have hl1 : (tkVs [tk]).length = 1 := rfl
          have hc : (tkVs acc).length + (tkVs [tk]).length ≤ 1000000 := by omega
          generalize toksL m s (skipL (s.length + 1) s k) (acc ++ [tk]) = v at *
          generalize tkVs acc = xs at *
          generalize tkVs [tk] = ys at *
          generalize skipL (s.length + 1) s k = k' at *
          unfold tkV at hone hbs
          obtain ⟨ev, eo, so, co, ⟨hev, hco⟩, R⟩ := RULES CC; rw [← hev]
          rw [← hco] at hone hsk
          rw [← hev] at hih
          simp only [fpart, part', Try.f10, Option.getD]
          simp (maxSteps := 5000000) only [SA, SB, SD, R, guardAt, binP, intP, indexAddrP, elemsOf, readCells, lenP, lenAt, resultsP, resultP, oneOr, reduceCtorEq, reduceIte, Nat.reduceEqDiff, Nat.reduceAdd, Nat.zero_add, Nat.reduceMul, Nat.reduceLT, Nat.reduceLeDiff, Int.reduceLT, Int.reduceNeg, Int.reduceLE, appendP, appendAt, letGo, setLoc, locVal, Int.reduceToNat, boxCells, und, TG, SE, SC, TKf, htu, h0, h5, h6, hlen, hil, hl, hone, hsk, hbs, apTk, hok, hc, hc0, loadR, loadP, lay, List.take_succ_cons, List.take_zero, List.drop_nil, List.filter_nil, List.cons_append, extP, List.append_assoc, hgl]
          refine hih _ _ ?_ ?_ ?_
          · simp (maxSteps := 5000000) only [SA, SB, SD, R, guardAt, binP, intP, indexAddrP, elemsOf, readCells, lenP, lenAt, resultsP, resultP, oneOr, reduceCtorEq, reduceIte, Nat.reduceEqDiff, Nat.reduceAdd, Nat.zero_add, Nat.reduceMul, Nat.reduceLT, Nat.reduceLeDiff, Int.reduceLT, Int.reduceNeg, Int.reduceLE, appendP, appendAt, letGo, setLoc, locVal, Int.reduceToNat, boxCells, und, h0]
          · simp (maxSteps := 5000000) only [SA, SB, SD, R, guardAt, binP, intP, indexAddrP, elemsOf, readCells, lenP, lenAt, resultsP, resultP, oneOr, reduceCtorEq, reduceIte, Nat.reduceEqDiff, Nat.reduceAdd, Nat.zero_add, Nat.reduceMul, Nat.reduceLT, Nat.reduceLeDiff, Int.reduceLT, Int.reduceNeg, Int.reduceLE, appendP, appendAt, letGo, setLoc, locVal, Int.reduceToNat, boxCells, und]
          · simp (maxSteps := 5000000) only [SA, SB, SD, R, guardAt, binP, intP, indexAddrP, elemsOf, readCells, lenP, lenAt, resultsP, resultP, oneOr, reduceCtorEq, reduceIte, Nat.reduceEqDiff, Nat.reduceAdd, Nat.zero_add, Nat.reduceMul, Nat.reduceLT, Nat.reduceLeDiff, Int.reduceLT, Int.reduceNeg, Int.reduceLE, appendP, appendAt, letGo, setLoc, locVal, Int.reduceToNat, boxCells, und]
    · rw [if_neg hlt]
      have hil : ¬ (i : Int) < (s.length : Int) := by omega
      obtain ⟨ev, eo, so, co, ⟨hev, hco⟩, R⟩ := RULES CC; rw [← hev]
      simp only [fpart, part', Try.f10, Option.getD]
      simp (maxSteps := 5000000) only [SA, SB, SD, R, guardAt, binP, intP, indexAddrP, elemsOf, readCells, lenP, lenAt, resultsP, resultP, oneOr, reduceCtorEq, reduceIte, Nat.reduceEqDiff, Nat.reduceAdd, Nat.zero_add, Nat.reduceMul, Nat.reduceLT, Nat.reduceLeDiff, Int.reduceLT, Int.reduceNeg, Int.reduceLE, appendP, appendAt, letGo, setLoc, locVal, Int.reduceToNat, boxCells, und, TG, SE, h0, h5, h6, hlen, hil]
      exact ⟨_, _, Or.inl ⟨rfl, rfl, _, ha, rfl, by simp (maxSteps := 5000000) only [SA, SB, SD, R, guardAt, binP, intP, indexAddrP, elemsOf, readCells, lenP, lenAt, resultsP, resultP, oneOr, reduceCtorEq, reduceIte, Nat.reduceEqDiff, Nat.reduceAdd, Nat.zero_add, Nat.reduceMul, Nat.reduceLT, Nat.reduceLeDiff, Int.reduceLT, Int.reduceNeg, Int.reduceLE, appendP, appendAt, letGo, setLoc, locVal, Int.reduceToNat, boxCells, und, h5], by simp (maxSteps := 5000000) only [SA, SB, SD, R, guardAt, binP, intP, indexAddrP, elemsOf, readCells, lenP, lenAt, resultsP, resultP, oneOr, reduceCtorEq, reduceIte, Nat.reduceEqDiff, Nat.reduceAdd, Nat.zero_add, Nat.reduceMul, Nat.reduceLT, Nat.reduceLeDiff, Int.reduceLT, Int.reduceNeg, Int.reduceLE, appendP, appendAt, letGo, setLoc, locVal, Int.reduceToNat, boxCells, und, h0]⟩⟩
theorem call_lex_Tokens (s : List UInt8) (hs : s.length ≤ 900000) : ∃ bx, callL CC 10 [.str s] [] = some (.ret (.tup [.sl (tkVs (toks s).1), .int .i64 ((toks s).2.1 : Nat), .int .i64 (toks s).2.2]), bx) := by
  rw [callL_enter (fn := Try.f10) (c := Try.f10.body.getD .skip) rfl rfl fat_lex_Tokens rfl ok_lex_Tokens (Nat.le_of_ble_eq_true rfl)]
  have hlen := len_str s
  have hsk := op_lex_skip s hs 0 (by omega)
  have hge := skipL_ge (s.length + 1) s 0 (by omega)
  have hloop := loop_lex_Tokens _ rfl s hs (s.length + 1) (skipL (s.length + 1) s 0) []
  have hbs : buildSliceP CC 23 1 [(0, .agg [.int .i64 0, .str [], .int .i64 (s.length : Int)])] = some (.osl 32 (tkVs [(0, [], s.length)])) := bsTk' (0, [], s.length)
  have hok := okTk (0, [], s.length)
  have hb := buildTk2 (s.length : Int)
  have cast0 : ((0 : Nat) : Int) = 0 := rfl
  rw [cast0] at hsk
  unfold toks
  by_cases c1 : 20000 < s.length
  · rw [if_pos c1]
    have c1' : (s.length : Int) > 20000 := by omega
    obtain ⟨ev, eo, so, co, ⟨hev, hco⟩, R⟩ := RULES CC; rw [← hev]
    simp only [fpart, part', Try.f10, Option.getD]
    simp (maxSteps := 5000000) only [SA, SB, SD, R, guardAt, binP, intP, indexAddrP, elemsOf, readCells, lenP, lenAt, resultsP, resultP, oneOr, reduceCtorEq, reduceIte, Nat.reduceEqDiff, Nat.reduceAdd, Nat.zero_add, Nat.reduceMul, Nat.reduceLT, Nat.reduceLeDiff, Int.reduceLT, Int.reduceNeg, Int.reduceLE, appendP, appendAt, letGo, setLoc, locVal, Int.reduceToNat, boxCells, und, TG, SE, hlen, c1']
    exact ⟨_, rfl⟩
  · rw [if_neg c1]
    have c1' : ¬ (s.length : Int) > 20000 := by omega
    have hl2 := fun e bx => hloop e bx (by omega) hge.2 (by simp)
    have hap : ∀ acc, tkVs (acc ++ [(0, [], s.length)]) = tkVs acc ++ tkVs [(0, [], s.length)] := fun acc => by simp only [tkVs, List.map_append]
    have hln : ∀ acc, acc.length ≤ 4000 → (tkVs acc).length + (tkVs [(0, [], s.length)]).length ≤ 1000000 := fun acc h => by unfold tkVs; rw [List.length_map]; simp; omega
    generalize toksL (s.length + 1) s (skipL (s.length + 1) s 0) [] = v at *
    generalize skipL (s.length + 1) s 0 = k' at *
    generalize tkVs [(0, [], s.length)] = ys at *
    obtain ⟨ev, eo, so, co, ⟨hev, hco⟩, R⟩ := RULES CC; rw [← hev]
    rw [← hco] at hsk
    rw [← hev] at hl2
    simp only [fpart, part', Try.f10, Option.getD] at hl2 ⊢
    simp (maxSteps := 5000000) only [SA, SB, SD, R, guardAt, binP, intP, indexAddrP, elemsOf, readCells, lenP, lenAt, resultsP, resultP, oneOr, reduceCtorEq, reduceIte, Nat.reduceEqDiff, Nat.reduceAdd, Nat.zero_add, Nat.reduceMul, Nat.reduceLT, Nat.reduceLeDiff, Int.reduceLT, Int.reduceNeg, Int.reduceLE, appendP, appendAt, letGo, setLoc, locVal, Int.reduceToNat, boxCells, und, TG, SE, hlen, c1', hsk]
    generalize hE : ev _ _ = r
    have hP : PTk s v r := hE ▸ hl2 _ _ (by simp (maxSteps := 5000000) only [SA, SB, SD, R, guardAt, binP, intP, indexAddrP, elemsOf, readCells, lenP, lenAt, resultsP, resultP, oneOr, reduceCtorEq, reduceIte, Nat.reduceEqDiff, Nat.reduceAdd, Nat.zero_add, Nat.reduceMul, Nat.reduceLT, Nat.reduceLeDiff, Int.reduceLT, Int.reduceNeg, Int.reduceLE, appendP, appendAt, letGo, setLoc, locVal, Int.reduceToNat, boxCells, und]) (by simp (maxSteps := 5000000) only [SA, SB, SD, R, guardAt, binP, intP, indexAddrP, elemsOf, readCells, lenP, lenAt, resultsP, resultP, oneOr, reduceCtorEq, reduceIte, Nat.reduceEqDiff, Nat.reduceAdd, Nat.zero_add, Nat.reduceMul, Nat.reduceLT, Nat.reduceLeDiff, Int.reduceLT, Int.reduceNeg, Int.reduceLE, appendP, appendAt, letGo, setLoc, locVal, Int.reduceToNat, boxCells, und]; rfl) (by simp (maxSteps := 5000000) only [SA, SB, SD, R, guardAt, binP, intP, indexAddrP, elemsOf, readCells, lenP, lenAt, resultsP, resultP, oneOr, reduceCtorEq, reduceIte, Nat.reduceEqDiff, Nat.reduceAdd, Nat.zero_add, Nat.reduceMul, Nat.reduceLT, Nat.reduceLeDiff, Int.reduceLT, Int.reduceNeg, Int.reduceLE, appendP, appendAt, letGo, setLoc, locVal, Int.reduceToNat, boxCells, und])
    obtain ⟨e', bx', ⟨g1, g2, acc, g3, g4, g5, g6⟩ | ⟨g1, g2, g3, g4, g5⟩⟩ := hP
    · subst g1
      have hc := hln acc g3
      rw [g4, hap, g2]
      simp (maxSteps := 5000000) only [SA, SB, SD, R, guardAt, binP, intP, indexAddrP, elemsOf, readCells, lenP, lenAt, resultsP, resultP, oneOr, reduceCtorEq, reduceIte, Nat.reduceEqDiff, Nat.reduceAdd, Nat.zero_add, Nat.reduceMul, Nat.reduceLT, Nat.reduceLeDiff, Int.reduceLT, Int.reduceNeg, Int.reduceLE, appendP, appendAt, letGo, setLoc, locVal, Int.reduceToNat, boxCells, und, TG, SE, g5, g6, hlen, hb, hbs, apTk, hok, hc]
      exact ⟨_, rfl⟩
    · subst g1
      rw [g2]
      simp (maxSteps := 5000000) only [SA, SB, SD, R, guardAt, binP, intP, indexAddrP, elemsOf, readCells, lenP, lenAt, resultsP, resultP, oneOr, reduceCtorEq, reduceIte, Nat.reduceEqDiff, Nat.reduceAdd, Nat.zero_add, Nat.reduceMul, Nat.reduceLT, Nat.reduceLeDiff, Int.reduceLT, Int.reduceNeg, Int.reduceLE, appendP, appendAt, letGo, setLoc, locVal, Int.reduceToNat, boxCells, und, TG, SE, g3, g4, g5]
      exact ⟨_, rfl⟩
end Go.HH
