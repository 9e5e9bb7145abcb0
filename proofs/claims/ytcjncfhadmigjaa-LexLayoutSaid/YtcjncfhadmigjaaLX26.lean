/-
  Quoted strings: the specification's functions.
-/
import Derived.Test.YtcjncfhadmigjaaLX23
namespace Go.HH
open Go Go.Proofs
set_option maxRecDepth 100000
set_option linter.unusedSimpArgs false
set_option linter.unusedVariables false
theorem ok_R04_Quote : fnOK CC Try.f15 (Try.f15.body.getD .skip) = true := by kernel_rfl
theorem fat_R04_Quote : CC.P.funcs[15]? = some Try.f15 := by kernel_rfl
theorem ix_at (s : List UInt8) (i : Nat) (h : i < s.length) : indexV CC 9 (.str s) (.int .i64 (i : Int)) = some (.int .u8 ((atL s i : Nat) : Int)) := by
  have hx : s[i]? = some s[i] := by simp
  rw [atL_get hx]
  exact ix_str s i _ hx
theorem bs_one (n : Nat) (h : n < 256) : buildSliceP CC 38 1 [(0, .int .u8 (n : Int))] = some (.osl 5 (bys [UInt8.ofNat n])) := by
  rw [bs_u8]
  have := bys_snoc [] n h
  show some (PV.osl 5 ([] ++ [.int .u8 (n : Int)])) = _
  exact congrArg (fun x => some (PV.osl 5 x)) this
theorem bs_two (a b : Int) : buildSliceP CC 38 2 [(0, .int .u8 a), (1, .int .u8 b)] = some (.osl 5 [.int .u8 a, .int .u8 b]) := by
  have hz : tZero CC 5 = some (.int .u8 0) := by kernel_rfl
  have hi : ∃ i, CC.P.info? 5 = some i ∧ i.size = 1 := ⟨(Try.prog.info? 5).getD default, by kernel_rfl, by kernel_rfl⟩
  obtain ⟨i, hi, hs⟩ := hi
  unfold buildSliceP
  simp only [TG, hz, hi, hs]
  rfl
theorem bs_four (a b c d : Int) : buildSliceP CC 38 4 [(0, .int .u8 a), (1, .int .u8 b), (2, .int .u8 c), (3, .int .u8 d)] = some (.osl 5 [.int .u8 a, .int .u8 b, .int .u8 c, .int .u8 d]) := by
  have hz : tZero CC 5 = some (.int .u8 0) := by kernel_rfl
  have hi : ∃ i, CC.P.info? 5 = some i ∧ i.size = 1 := ⟨(Try.prog.info? 5).getD default, by kernel_rfl, by kernel_rfl⟩
  obtain ⟨i, hi, hs⟩ := hi
  unfold buildSliceP
  simp only [TG, hz, hi, hs]
  rfl
theorem bys_append (a b : List UInt8) : bys (a ++ b) = bys a ++ bys b := by simp [bys]
theorem conv_b1 (l : List UInt8) : convP CC 38 9 (.osl 5 (bys l)) = some (.str l) := by
  have h := bytesOf_bys l
  unfold convP
  simp only [TG, elemsOf, h]
  rfl
theorem conv_b2 (l : List UInt8) : convP CC 38 9 (.sl (bys l)) = some (.str l) := by
  have h := bytesOf_bys l
  unfold convP
  simp only [TG, elemsOf, h]
  rfl
theorem formL_le (c : UInt8) : (formL c).length ≤ 4 := by
  rcases form_cases c with ⟨h1, h2⟩ | ⟨h1, h2, h3⟩ | ⟨a, b, h1, h2, h3, h4⟩
  · rw [h2]; simp
  · rw [h3]; simp
  · rw [h1]; simp
theorem loop_R04_Quote (L : Code) (hL : L = fpart Try.f15 [1,1,0,1,0]) (s : List UInt8) (hs : s.length ≤ 200000) : ∀ (m i : Nat) (acc : List UInt8) (e : List PV), i + m = s.length → acc.length ≤ 4 * i + 1 → getT e 0 = .str s → getT e 3 = .osl 5 (bys acc) → getT e 4 = .int .i64 i →
    ∃ e', evL CC L ⟨e, []⟩ = some (.exit 0, ⟨e', []⟩) ∧ getT e' 3 = .osl 5 (bys (acc ++ (s.drop i).flatMap formL)) := by
  intro m
  induction m with
  | zero =>
    intro i acc e hm ha h0 h3 h4
    rw [evL_at (fpart Try.f15 [1,1,0,1,0,0]) hL]
    have hi : ¬ (i : Int) < (s.length : Int) := by omega
    have hlen := len_str s
    rw [List.drop_eq_nil_of_le (by omega), List.flatMap_nil, List.append_nil]
    obtain ⟨ev, eo, so, co, ⟨hev, hco⟩, R⟩ := RULES CC; rw [← hev]
    simp only [fpart, part', Try.f15, Option.getD]
    simp (maxSteps := 5000000) only [SA, SB, SD, R, guardAt, binP, intP, indexAddrP, elemsOf, readCells, lenP, lenAt, resultsP, resultP, oneOr, reduceCtorEq, reduceIte, Nat.reduceEqDiff, Nat.reduceAdd, Nat.zero_add, Nat.reduceMul, Nat.reduceLT, Nat.reduceLeDiff, Int.reduceLT, Int.reduceNeg, Int.reduceLE, appendP, appendAt, letGo, setLoc, locVal, Int.reduceToNat, boxCells, und, TG, SE, h0, h3, h4, hlen, hi]
    exact ⟨_, rfl, by simp (maxSteps := 5000000) only [SA, SB, SD, R, guardAt, binP, intP, indexAddrP, elemsOf, readCells, lenP, lenAt, resultsP, resultP, oneOr, reduceCtorEq, reduceIte, Nat.reduceEqDiff, Nat.reduceAdd, Nat.zero_add, Nat.reduceMul, Nat.reduceLT, Nat.reduceLeDiff, Int.reduceLT, Int.reduceNeg, Int.reduceLE, appendP, appendAt, letGo, setLoc, locVal, Int.reduceToNat, boxCells, und, h3]⟩
  | succ m ih =>
    intro i acc e hm ha h0 h3 h4
    rw [evL_at (fpart Try.f15 [1,1,0,1,0,0]) hL]
    have hi : (i : Int) < (s.length : Int) := by omega
    have hil : i < s.length := by omega
    have hlen := len_str s
    have hx : s[i]? = some s[i] := by simp
    have hix := ix_str s i _ hx
    have hdr : s.drop i = s[i] :: s.drop (i + 1) := List.drop_eq_getElem_cons hil
    rw [hdr, List.flatMap_cons, ← List.append_assoc]
    generalize s[i] = c at *
    have hcl := UInt8.toNat_lt c
    have hfl := formL_le c
    have hbl : (bys acc).length = acc.length := bys_length acc
    have hfb : (bys (formL c)).length = (formL c).length := bys_length _
    have hok := bys_all (formL c)
    have hc : (bys acc).length + (bys (formL c)).length ≤ 1000000 := by omega
    have hw := wrap_i64 (n := (i : Int) + 1) ⟨by omega, by omega⟩
    have cast1 : ((i + 1 : Nat) : Int) = (i : Int) + 1 := by omega
    have key := fun e => ih (i + 1) (acc ++ formL c) e (by omega) (by rw [List.length_append]; omega)
    rw [cast1, bys_append acc] at key
    have e92 : (92 : UInt8).toNat = 92 := rfl
    have hfm : formL c = if c.toNat = 34 ∨ c.toNat = 92 then [92, c] else if c.toNat < 32 ∨ 126 < c.toNat then [92, 120, hexd (c.toNat / 16), hexd (c.toNat % 16)] else [c] := by
      unfold formL formN
      rw [UInt8.ofNat_toNat]
    by_cases c1 : c.toNat = 34
    · have c1' : ((c.toNat : Int) == 34) = true := by simp [c1]
      have hbs : buildSliceP CC 38 2 [(0, .int .u8 92), (1, .int .u8 (c.toNat : Int))] = some (.osl 5 (bys (formL c))) := by
        rw [bs_two, hfm, if_pos (Or.inl c1)]; rfl
      generalize bys (formL c) = ys at *
      generalize bys acc = xs at *
      obtain ⟨ev, eo, so, co, ⟨hev, hco⟩, R⟩ := RULES CC; rw [← hev]
      rw [← hev] at key
      simp only [fpart, part', Try.f15, Option.getD]
      simp (maxSteps := 5000000) only [SA, SB, SD, R, guardAt, binP, intP, indexAddrP, elemsOf, readCells, lenP, lenAt, resultsP, resultP, oneOr, reduceCtorEq, reduceIte, Nat.reduceEqDiff, Nat.reduceAdd, Nat.zero_add, Nat.reduceMul, Nat.reduceLT, Nat.reduceLeDiff, Int.reduceLT, Int.reduceNeg, Int.reduceLE, appendP, appendAt, letGo, setLoc, locVal, Int.reduceToNat, boxCells, und, TG, SE, h0, h3, h4, hlen, hi, hix, c1', hbs, ap_u8, hok, hc, hw]
      exact key _ (by simp (maxSteps := 5000000) only [SA, SB, SD, R, guardAt, binP, intP, indexAddrP, elemsOf, readCells, lenP, lenAt, resultsP, resultP, oneOr, reduceCtorEq, reduceIte, Nat.reduceEqDiff, Nat.reduceAdd, Nat.zero_add, Nat.reduceMul, Nat.reduceLT, Nat.reduceLeDiff, Int.reduceLT, Int.reduceNeg, Int.reduceLE, appendP, appendAt, letGo, setLoc, locVal, Int.reduceToNat, boxCells, und, h0]) (by simp (maxSteps := 5000000) only [SA, SB, SD, R, guardAt, binP, intP, indexAddrP, elemsOf, readCells, lenP, lenAt, resultsP, resultP, oneOr, reduceCtorEq, reduceIte, Nat.reduceEqDiff, Nat.reduceAdd, Nat.zero_add, Nat.reduceMul, Nat.reduceLT, Nat.reduceLeDiff, Int.reduceLT, Int.reduceNeg, Int.reduceLE, appendP, appendAt, letGo, setLoc, locVal, Int.reduceToNat, boxCells, und]) (by simp (maxSteps := 5000000) only [SA, SB, SD, R, guardAt, binP, intP, indexAddrP, elemsOf, readCells, lenP, lenAt, resultsP, resultP, oneOr, reduceCtorEq, reduceIte, Nat.reduceEqDiff, Nat.reduceAdd, Nat.zero_add, Nat.reduceMul, Nat.reduceLT, Nat.reduceLeDiff, Int.reduceLT, Int.reduceNeg, Int.reduceLE, appendP, appendAt, letGo, setLoc, locVal, Int.reduceToNat, boxCells, und])
    · have c1' : ((c.toNat : Int) == 34) = false := by simp; omega
      by_cases c2 : c.toNat = 92
      · have c2' : ((c.toNat : Int) == 92) = true := by simp [c2]
        have hbs : buildSliceP CC 38 2 [(0, .int .u8 92), (1, .int .u8 (c.toNat : Int))] = some (.osl 5 (bys (formL c))) := by
          rw [bs_two, hfm, if_pos (Or.inr c2)]; rfl
        generalize bys (formL c) = ys at *
        generalize bys acc = xs at *
        obtain ⟨ev, eo, so, co, ⟨hev, hco⟩, R⟩ := RULES CC; rw [← hev]
        rw [← hev] at key
        simp only [fpart, part', Try.f15, Option.getD]
        simp (maxSteps := 5000000) only [SA, SB, SD, R, guardAt, binP, intP, indexAddrP, elemsOf, readCells, lenP, lenAt, resultsP, resultP, oneOr, reduceCtorEq, reduceIte, Nat.reduceEqDiff, Nat.reduceAdd, Nat.zero_add, Nat.reduceMul, Nat.reduceLT, Nat.reduceLeDiff, Int.reduceLT, Int.reduceNeg, Int.reduceLE, appendP, appendAt, letGo, setLoc, locVal, Int.reduceToNat, boxCells, und, TG, SE, h0, h3, h4, hlen, hi, hix, c1', c2', hbs, ap_u8, hok, hc, hw]
        exact key _ (by simp (maxSteps := 5000000) only [SA, SB, SD, R, guardAt, binP, intP, indexAddrP, elemsOf, readCells, lenP, lenAt, resultsP, resultP, oneOr, reduceCtorEq, reduceIte, Nat.reduceEqDiff, Nat.reduceAdd, Nat.zero_add, Nat.reduceMul, Nat.reduceLT, Nat.reduceLeDiff, Int.reduceLT, Int.reduceNeg, Int.reduceLE, appendP, appendAt, letGo, setLoc, locVal, Int.reduceToNat, boxCells, und, h0]) (by simp (maxSteps := 5000000) only [SA, SB, SD, R, guardAt, binP, intP, indexAddrP, elemsOf, readCells, lenP, lenAt, resultsP, resultP, oneOr, reduceCtorEq, reduceIte, Nat.reduceEqDiff, Nat.reduceAdd, Nat.zero_add, Nat.reduceMul, Nat.reduceLT, Nat.reduceLeDiff, Int.reduceLT, Int.reduceNeg, Int.reduceLE, appendP, appendAt, letGo, setLoc, locVal, Int.reduceToNat, boxCells, und]) (by simp (maxSteps := 5000000) only [SA, SB, SD, R, guardAt, binP, intP, indexAddrP, elemsOf, readCells, lenP, lenAt, resultsP, resultP, oneOr, reduceCtorEq, reduceIte, Nat.reduceEqDiff, Nat.reduceAdd, Nat.zero_add, Nat.reduceMul, Nat.reduceLT, Nat.reduceLeDiff, Int.reduceLT, Int.reduceNeg, Int.reduceLE, appendP, appendAt, letGo, setLoc, locVal, Int.reduceToNat, boxCells, und])
      · have c2' : ((c.toNat : Int) == 92) = false := by simp; omega
        rw [if_neg (by omega)] at hfm
        have hq : IntKind.wrap .u8 (Int.tdiv (c.toNat : Int) 16) = ((UInt8.ofNat (c.toNat / 16)).toNat : Int) := by
          rw [Int.tdiv_eq_ediv_of_nonneg (by omega), UInt8.toNat_ofNat']
          simp [IntKind.wrap, IntKind.bits, IntKind.signed]
        have hd1 := op_R04_digit (UInt8.ofNat (c.toNat / 16))
        have hd2 := op_R04_digit c
        have hbs4 : c.toNat < 32 ∨ 126 < c.toNat → buildSliceP CC 38 4 [(0, .int .u8 92), (1, .int .u8 120), (2, .int .u8 (digN (UInt8.ofNat (c.toNat / 16)).toNat)), (3, .int .u8 (digN c.toNat))] = some (.osl 5 (bys (formL c))) := fun h => by
          rw [bs_four, hfm, if_pos h, UInt8.toNat_ofNat', Nat.mod_eq_of_lt (by omega)]
          unfold digN
          rw [Nat.mod_eq_of_lt (by omega : c.toNat / 16 < 16)]
          rfl
        have hbs1 : ¬ (c.toNat < 32 ∨ 126 < c.toNat) → buildSliceP CC 38 1 [(0, .int .u8 (c.toNat : Int))] = some (.osl 5 (bys (formL c))) := fun h => by
          rw [hfm, if_neg h, bs_one _ hcl, UInt8.ofNat_toNat]
        have z16 : ((16 : Int) = 0) = False := by simp
        generalize bys (formL c) = ys at *
        generalize bys acc = xs at *
        by_cases c3 : c.toNat < 32
        · have c3' : ((c.toNat : Int) < 32) := by omega
          have hbs := hbs4 (Or.inl c3)
          obtain ⟨ev, eo, so, co, ⟨hev, hco⟩, R⟩ := RULES CC; rw [← hev]
          rw [← hev] at key
          rw [← hco] at hd1 hd2
          simp only [fpart, part', Try.f15, Option.getD]
          simp (maxSteps := 5000000) only [SA, SB, SD, R, guardAt, binP, intP, indexAddrP, elemsOf, readCells, lenP, lenAt, resultsP, resultP, oneOr, reduceCtorEq, reduceIte, Nat.reduceEqDiff, Nat.reduceAdd, Nat.zero_add, Nat.reduceMul, Nat.reduceLT, Nat.reduceLeDiff, Int.reduceLT, Int.reduceNeg, Int.reduceLE, appendP, appendAt, letGo, setLoc, locVal, Int.reduceToNat, boxCells, und, TG, SE, h0, h3, h4, hlen, hi, hix, c1', c2', c3', z16, hq, hd1, hd2, hbs, ap_u8, hok, hc, hw]
          exact key _ (by simp (maxSteps := 5000000) only [SA, SB, SD, R, guardAt, binP, intP, indexAddrP, elemsOf, readCells, lenP, lenAt, resultsP, resultP, oneOr, reduceCtorEq, reduceIte, Nat.reduceEqDiff, Nat.reduceAdd, Nat.zero_add, Nat.reduceMul, Nat.reduceLT, Nat.reduceLeDiff, Int.reduceLT, Int.reduceNeg, Int.reduceLE, appendP, appendAt, letGo, setLoc, locVal, Int.reduceToNat, boxCells, und, h0]) (by simp (maxSteps := 5000000) only [SA, SB, SD, R, guardAt, binP, intP, indexAddrP, elemsOf, readCells, lenP, lenAt, resultsP, resultP, oneOr, reduceCtorEq, reduceIte, Nat.reduceEqDiff, Nat.reduceAdd, Nat.zero_add, Nat.reduceMul, Nat.reduceLT, Nat.reduceLeDiff, Int.reduceLT, Int.reduceNeg, Int.reduceLE, appendP, appendAt, letGo, setLoc, locVal, Int.reduceToNat, boxCells, und]) (by simp (maxSteps := 5000000) only [SA, SB, SD, R, guardAt, binP, intP, indexAddrP, elemsOf, readCells, lenP, lenAt, resultsP, resultP, oneOr, reduceCtorEq, reduceIte, Nat.reduceEqDiff, Nat.reduceAdd, Nat.zero_add, Nat.reduceMul, Nat.reduceLT, Nat.reduceLeDiff, Int.reduceLT, Int.reduceNeg, Int.reduceLE, appendP, appendAt, letGo, setLoc, locVal, Int.reduceToNat, boxCells, und])
        · have c3' : ¬ ((c.toNat : Int) < 32) := by omega
          by_cases c4 : 126 < c.toNat
          · have c4' : ((c.toNat : Int) > 126) := by omega
            have hbs := hbs4 (Or.inr c4)
            obtain ⟨ev, eo, so, co, ⟨hev, hco⟩, R⟩ := RULES CC; rw [← hev]
            rw [← hev] at key
            rw [← hco] at hd1 hd2
            simp only [fpart, part', Try.f15, Option.getD]
            simp (maxSteps := 5000000) only [SA, SB, SD, R, guardAt, binP, intP, indexAddrP, elemsOf, readCells, lenP, lenAt, resultsP, resultP, oneOr, reduceCtorEq, reduceIte, Nat.reduceEqDiff, Nat.reduceAdd, Nat.zero_add, Nat.reduceMul, Nat.reduceLT, Nat.reduceLeDiff, Int.reduceLT, Int.reduceNeg, Int.reduceLE, appendP, appendAt, letGo, setLoc, locVal, Int.reduceToNat, boxCells, und, TG, SE, h0, h3, h4, hlen, hi, hix, c1', c2', c3', c4', z16, hq, hd1, hd2, hbs, ap_u8, hok, hc, hw]
            exact key _ (by simp (maxSteps := 5000000) only [SA, SB, SD, R, guardAt, binP, intP, indexAddrP, elemsOf, readCells, lenP, lenAt, resultsP, resultP, oneOr, reduceCtorEq, reduceIte, Nat.reduceEqDiff, Nat.reduceAdd, Nat.zero_add, Nat.reduceMul, Nat.reduceLT, Nat.reduceLeDiff, Int.reduceLT, Int.reduceNeg, Int.reduceLE, appendP, appendAt, letGo, setLoc, locVal, Int.reduceToNat, boxCells, und, h0]) (by simp (maxSteps := 5000000) only [SA, SB, SD, R, guardAt, binP, intP, indexAddrP, elemsOf, readCells, lenP, lenAt, resultsP, resultP, oneOr, reduceCtorEq, reduceIte, Nat.reduceEqDiff, Nat.reduceAdd, Nat.zero_add, Nat.reduceMul, Nat.reduceLT, Nat.reduceLeDiff, Int.reduceLT, Int.reduceNeg, Int.reduceLE, appendP, appendAt, letGo, setLoc, locVal, Int.reduceToNat, boxCells, und]) (by simp (maxSteps := 5000000) only [SA, SB, SD, R, guardAt, binP, intP, indexAddrP, elemsOf, readCells, lenP, lenAt, resultsP, resultP, oneOr, reduceCtorEq, reduceIte, Nat.reduceEqDiff, Nat.reduceAdd, Nat.zero_add, Nat.reduceMul, Nat.reduceLT, Nat.reduceLeDiff, Int.reduceLT, Int.reduceNeg, Int.reduceLE, appendP, appendAt, letGo, setLoc, locVal, Int.reduceToNat, boxCells, und])
          · have c4' : ¬ ((c.toNat : Int) > 126) := by omega
            have hbs := hbs1 (by omega)
            obtain ⟨ev, eo, so, co, ⟨hev, hco⟩, R⟩ := RULES CC; rw [← hev]
            rw [← hev] at key
            simp only [fpart, part', Try.f15, Option.getD]
            simp (maxSteps := 5000000) only [SA, SB, SD, R, guardAt, binP, intP, indexAddrP, elemsOf, readCells, lenP, lenAt, resultsP, resultP, oneOr, reduceCtorEq, reduceIte, Nat.reduceEqDiff, Nat.reduceAdd, Nat.zero_add, Nat.reduceMul, Nat.reduceLT, Nat.reduceLeDiff, Int.reduceLT, Int.reduceNeg, Int.reduceLE, appendP, appendAt, letGo, setLoc, locVal, Int.reduceToNat, boxCells, und, TG, SE, h0, h3, h4, hlen, hi, hix, c1', c2', c3', c4', hbs, ap_u8, hok, hc, hw]
            exact key _ (by simp (maxSteps := 5000000) only [SA, SB, SD, R, guardAt, binP, intP, indexAddrP, elemsOf, readCells, lenP, lenAt, resultsP, resultP, oneOr, reduceCtorEq, reduceIte, Nat.reduceEqDiff, Nat.reduceAdd, Nat.zero_add, Nat.reduceMul, Nat.reduceLT, Nat.reduceLeDiff, Int.reduceLT, Int.reduceNeg, Int.reduceLE, appendP, appendAt, letGo, setLoc, locVal, Int.reduceToNat, boxCells, und, h0]) (by simp (maxSteps := 5000000) only [SA, SB, SD, R, guardAt, binP, intP, indexAddrP, elemsOf, readCells, lenP, lenAt, resultsP, resultP, oneOr, reduceCtorEq, reduceIte, Nat.reduceEqDiff, Nat.reduceAdd, Nat.zero_add, Nat.reduceMul, Nat.reduceLT, Nat.reduceLeDiff, Int.reduceLT, Int.reduceNeg, Int.reduceLE, appendP, appendAt, letGo, setLoc, locVal, Int.reduceToNat, boxCells, und]) (by simp (maxSteps := 5000000) only [SA, SB, SD, R, guardAt, binP, intP, indexAddrP, elemsOf, readCells, lenP, lenAt, resultsP, resultP, oneOr, reduceCtorEq, reduceIte, Nat.reduceEqDiff, Nat.reduceAdd, Nat.zero_add, Nat.reduceMul, Nat.reduceLT, Nat.reduceLeDiff, Int.reduceLT, Int.reduceNeg, Int.reduceLE, appendP, appendAt, letGo, setLoc, locVal, Int.reduceToNat, boxCells, und])
theorem flat_le (t : List UInt8) : (t.flatMap formL).length ≤ 4 * t.length := by
  induction t with
  | nil => exact Nat.le_refl _
  | cons c t ih => have := formL_le c; rw [List.flatMap_cons, List.length_append, List.length_cons]; omega
theorem call_R04_Quote (s : List UInt8) (hs : s.length ≤ 200000) : callL CC 15 [.str s] [] = some (.ret (.str (quoteL s)), []) := by
  rw [callL_enter (fn := Try.f15) (c := Try.f15.body.getD .skip) rfl rfl fat_R04_Quote rfl ok_R04_Quote (Nat.le_of_ble_eq_true rfl)]
  have hloop := fun e => loop_R04_Quote _ rfl s hs s.length 0 [34] e (by omega) (by simp)
  have hbs := bs_one 34 (by decide)
  have hbs : buildSliceP CC 38 1 [(0, .int .u8 34)] = some (.osl 5 (bys [34])) := hbs
  have hq : [34] ++ (s.drop 0).flatMap formL ++ [34] = quoteL s := rfl
  have hcv1 := conv_b1 ([34] ++ (s.drop 0).flatMap formL ++ [34])
  have hcv2 := conv_b2 ([34] ++ (s.drop 0).flatMap formL ++ [34])
  have hfl := flat_le s
  have hc : (bys ([34] ++ (s.drop 0).flatMap formL)).length + (bys [34]).length ≤ 1000000 := by
    rw [bys_length, bys_length, List.length_append, List.drop_zero]
    simp only [List.length_cons, List.length_nil]
    omega
  have hok := bys_all [34]
  rw [hq, ← hq, bys_append ([34] ++ (s.drop 0).flatMap formL) [34], hq] at hcv1 hcv2
  generalize bys ([34] ++ (s.drop 0).flatMap formL) = xs at *
  generalize bys [34] = ys at *
  generalize quoteL s = Q at *
  obtain ⟨ev, eo, so, co, ⟨hev, hco⟩, R⟩ := RULES CC; rw [← hev]
  rw [← hev] at hloop
  simp only [fpart, part', Try.f15, Option.getD] at hloop ⊢
  simp (maxSteps := 5000000) only [SA, SB, SD, R, guardAt, binP, intP, indexAddrP, elemsOf, readCells, lenP, lenAt, resultsP, resultP, oneOr, reduceCtorEq, reduceIte, Nat.reduceEqDiff, Nat.reduceAdd, Nat.zero_add, Nat.reduceMul, Nat.reduceLT, Nat.reduceLeDiff, Int.reduceLT, Int.reduceNeg, Int.reduceLE, appendP, appendAt, letGo, setLoc, locVal, Int.reduceToNat, boxCells, und, TG, SE, hbs]
  generalize hE : ev _ _ = z
  have hP : ∃ e', z = some (.exit 0, ⟨e', []⟩) ∧ getT e' 3 = .osl 5 xs := by
    rw [← hE]
    refine hloop _ ?_ ?_ ?_
    · simp (maxSteps := 5000000) only [SA, SB, SD, R, guardAt, binP, intP, indexAddrP, elemsOf, readCells, lenP, lenAt, resultsP, resultP, oneOr, reduceCtorEq, reduceIte, Nat.reduceEqDiff, Nat.reduceAdd, Nat.zero_add, Nat.reduceMul, Nat.reduceLT, Nat.reduceLeDiff, Int.reduceLT, Int.reduceNeg, Int.reduceLE, appendP, appendAt, letGo, setLoc, locVal, Int.reduceToNat, boxCells, und]
    · simp (maxSteps := 5000000) only [SA, SB, SD, R, guardAt, binP, intP, indexAddrP, elemsOf, readCells, lenP, lenAt, resultsP, resultP, oneOr, reduceCtorEq, reduceIte, Nat.reduceEqDiff, Nat.reduceAdd, Nat.zero_add, Nat.reduceMul, Nat.reduceLT, Nat.reduceLeDiff, Int.reduceLT, Int.reduceNeg, Int.reduceLE, appendP, appendAt, letGo, setLoc, locVal, Int.reduceToNat, boxCells, und]
    · simp (maxSteps := 5000000) only [SA, SB, SD, R, guardAt, binP, intP, indexAddrP, elemsOf, readCells, lenP, lenAt, resultsP, resultP, oneOr, reduceCtorEq, reduceIte, Nat.reduceEqDiff, Nat.reduceAdd, Nat.zero_add, Nat.reduceMul, Nat.reduceLT, Nat.reduceLeDiff, Int.reduceLT, Int.reduceNeg, Int.reduceLE, appendP, appendAt, letGo, setLoc, locVal, Int.reduceToNat, boxCells, und]; rfl
  obtain ⟨e', he, h3⟩ := hP
  subst he
  simp (maxSteps := 5000000) only [SA, SB, SD, R, guardAt, binP, intP, indexAddrP, elemsOf, readCells, lenP, lenAt, resultsP, resultP, oneOr, reduceCtorEq, reduceIte, Nat.reduceEqDiff, Nat.reduceAdd, Nat.zero_add, Nat.reduceMul, Nat.reduceLT, Nat.reduceLeDiff, Int.reduceLT, Int.reduceNeg, Int.reduceLE, appendP, appendAt, letGo, setLoc, locVal, Int.reduceToNat, boxCells, und, TG, SE, h3, hbs, ap_u8, hok, hc, hcv1, hcv2]
theorem op_R04_Quote (s : List UInt8) (hs : s.length ≤ 200000) (bx) : callOp CC (callL CC) 15 [.str s] bx = some (.ret (.str (quoteL s)), bx) := callOp_of rfl (by simp only [SA, Bool.and_true]) (call_R04_Quote s hs) rfl
end Go.HH
