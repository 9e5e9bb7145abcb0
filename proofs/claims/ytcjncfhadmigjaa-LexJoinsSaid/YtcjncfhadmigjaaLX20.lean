/-
  Tokens: THE LAW of joined texts.
-/
import Derived.Test.YtcjncfhadmigjaaLX19
namespace Go.HH
open Go Go.Proofs
set_option maxRecDepth 100000
set_option linter.unusedSimpArgs false
set_option linter.unusedVariables false
theorem toks_join (s t : List UInt8) (hs : s.length ≤ 1000) (ht : t.length ≤ 1000) :
    ((toks s).2.2 ≠ 0 ∧ (toks s).2.2 ≠ 4 → toks (joinL s t) = toks s) ∧
    ((toks s).2.2 = 0 → ∃ r, toks s = (r ++ [(0, [], s.length)], 0, 0) ∧ r.length ≤ 1000 ∧ toks (joinL s t) = shR (s.length + 1) r (toks t)) := by
  have hj := joinL_length s t
  have e1 : ∀ x : List UInt8, x.length ≤ 20000 → toks x = tk x (sk x 0) [] := fun x hx => by unfold toks; rw [if_neg (by omega)]; rfl
  rw [e1 s (by omega), e1 t (by omega), e1 (joinL s t) (by omega), sk_join s t s.length 0 (by omega) (by omega)]
  have hle := sk_le (s := s) (i := 0) (by omega)
  have hlt := sk_le (s := t) (i := 0) (by omega)
  have h := tk_join s t s.length (sk s 0) [] (by omega) hle.2 (by rw [List.length_nil]; omega)
  refine ⟨fun h4 => ?_, fun h0 => ?_⟩
  · have hl : sk s 0 < s.length := by
      rcases Nat.lt_or_ge (sk s 0) s.length with h' | h'
      · exact h'
      · rw [tk_eq (s := s) _ hle.2, if_neg (by omega)] at h4
        exact absurd rfl h4.1
    rw [if_pos hl]
    exact h.1 h4
  · obtain ⟨r, g1, g2, g3⟩ := h.2 h0
    rw [List.length_nil] at g2
    refine ⟨r, g1, by omega, ?_⟩
    rw [g3]
    have h2 := tk_join2 s t r t.length (sk t 0) [] (by omega) hlt.2 (by rw [List.length_nil]; omega)
    rw [← h2, List.map_nil, List.append_nil]
theorem bs0 : buildSliceP CC 23 0 [] = some (.osl 32 []) := by kernel_rfl
theorem ordOK_at {s : List UInt8} : ∀ {l : List Tk} {e : Nat}, ordOK s e l → ∀ x ∈ l, x.2.2 ≤ s.length
  | [], _, _, _, h => by cases h
  | (k, tx, a) :: r, e, ho, x, h => by
    obtain ⟨o1, o2, o3, o4, o5⟩ := ho
    rcases List.mem_cons.1 h with rfl | h
    · exact Nat.le_of_lt o2
    · split at o5
      · exact ordOK_at o5.2 x h
      · exact ordOK_at o5.2.2.2 x h
theorem law_LexJoins (s : List UInt8) (_ : s.length ≤ maxLen) (t : List UInt8) (_ : t.length ≤ maxLen) : ∃ bx, callL CC 6 [.str s, .str t] [] = some (.ret (.bool true), bx) := by
  rw [callL_enter (fn := Try.f6) (c := Try.f6.body.getD .skip) rfl rfl fat_L27_LexJoins rfl ok_L27_LexJoins (Nat.le_of_ble_eq_true rfl)]
  have hlen := len_str s
  have hlent := len_str t
  have haw := op_awake
  by_cases c1 : 1000 < s.length
  · have c1' : (s.length : Int) > 1000 := by omega
    obtain ⟨ev, eo, so, co, ⟨hev, hco⟩, R⟩ := RULES CC; rw [← hev]
    rw [← hco] at haw
    simp only [fpart, part', Try.f6, Option.getD]
    simp (maxSteps := 5000000) only [SA, SB, SD, R, guardAt, binP, intP, indexAddrP, elemsOf, readCells, lenP, lenAt, resultsP, resultP, oneOr, reduceCtorEq, reduceIte, Nat.reduceEqDiff, Nat.reduceAdd, Nat.zero_add, Nat.reduceMul, Nat.reduceLT, Nat.reduceLeDiff, Int.reduceLT, Int.reduceNeg, Int.reduceLE, appendP, appendAt, letGo, setLoc, locVal, Int.reduceToNat, boxCells, und, TG, SE, hlen, hlent, c1', haw]
    exact ⟨_, rfl⟩
  · have c1' : ¬ (s.length : Int) > 1000 := by omega
    by_cases c2 : 1000 < t.length
    · have c2' : (t.length : Int) > 1000 := by omega
      obtain ⟨ev, eo, so, co, ⟨hev, hco⟩, R⟩ := RULES CC; rw [← hev]
      rw [← hco] at haw
      simp only [fpart, part', Try.f6, Option.getD]
      simp (maxSteps := 5000000) only [SA, SB, SD, R, guardAt, binP, intP, indexAddrP, elemsOf, readCells, lenP, lenAt, resultsP, resultP, oneOr, reduceCtorEq, reduceIte, Nat.reduceEqDiff, Nat.reduceAdd, Nat.zero_add, Nat.reduceMul, Nat.reduceLT, Nat.reduceLeDiff, Int.reduceLT, Int.reduceNeg, Int.reduceLE, appendP, appendAt, letGo, setLoc, locVal, Int.reduceToNat, boxCells, und, TG, SE, hlen, hlent, c1', c2', haw]
      exact ⟨_, rfl⟩
    · have c2' : ¬ (t.length : Int) > 1000 := by omega
      have hj := joinL_length s t
      have hop : ∀ x : List UInt8, x.length ≤ 20000 → ∀ bx, callOp CC (callL CC) 10 [.str x] bx = some (.ret (.tup [.sl (tkVs (toks x).1), .int .i64 ((toks x).2.1 : Nat), .int .i64 (toks x).2.2]), bx) := fun x hx bx => by
        obtain ⟨b0, hT⟩ := call_lex_Tokens x (by omega)
        exact callOp_of rfl (by simp only [SA, Bool.and_true]) hT (pureTks _ _ _)
      have htks := hop s (by omega)
      have htkt := hop t (by omega)
      have htkj := hop (joinL s t) (by omega)
      have hjj : s ++ [10] ++ t = joinL s t := by unfold joinL; rw [List.append_assoc]; rfl
      have hS1 : strP .add s [10] = some (.str (s ++ [10])) := if_pos (by unfold maxStr; rw [List.length_singleton]; omega)
      have hS2 : strP .add (s ++ [10]) t = some (.str (joinL s t)) := by rw [← hjj]; exact if_pos (by unfold maxStr; rw [List.length_append, List.length_singleton]; omega)
      have hjoin := toks_join s t (by omega) (by omega)
      have hz : tkVs [] = [] := rfl
      have h00 : (((0 : Nat) : Int) == 0) = true := rfl
      have hn0 : ((0 : Int) != 0) = false := rfl
      rcases toks_ord s (by omega) with ⟨a, c, g1, g2, g3⟩ | ⟨r0, g1, g2, g3⟩
      · rw [g1] at htks
        simp only [hz] at htks
        have hc0 : (c != 0) = true := by rw [bne_iff_ne]; exact g2
        by_cases d1 : c = 12
        · have hj1 := hjoin.1 (by rw [g1]; exact ⟨g2, by simp only; omega⟩)
          rw [hj1, g1] at htkj
          simp only [hz] at htkj
          have hd1 : (c == 12) = true := by rw [beq_iff_eq]; exact d1
          have hbe : (c == c) = true := by simp
          generalize joinL s t = J at *
          obtain ⟨ev, eo, so, co, ⟨hev, hco⟩, R⟩ := RULES CC; rw [← hev]
          rw [← hco] at haw htks htkj
          simp only [fpart, part', Try.f6, Option.getD]
          simp (maxSteps := 5000000) only [SA, SB, SD, R, guardAt, binP, intP, indexAddrP, elemsOf, readCells, lenP, lenAt, resultsP, resultP, oneOr, reduceCtorEq, reduceIte, Nat.reduceEqDiff, Nat.reduceAdd, Nat.zero_add, Nat.reduceMul, Nat.reduceLT, Nat.reduceLeDiff, Int.reduceLT, Int.reduceNeg, Int.reduceLE, appendP, appendAt, letGo, setLoc, locVal, Int.reduceToNat, boxCells, und, TG, SE, hlen, hlent, c1', c2', haw, htks, htkj, hS1, hS2, hc0, hd1, hbe]
          exact ⟨_, rfl⟩
        · have hd1 : (c == 12) = false := by rw [beq_eq_false_iff_ne]; exact d1
          by_cases d2 : c = 2
          · have hj1 := hjoin.1 (by rw [g1]; exact ⟨g2, by simp only; omega⟩)
            rw [hj1, g1] at htkj
            simp only [hz] at htkj
            have hd2 : (c == 2) = true := by rw [beq_iff_eq]; exact d2
            generalize joinL s t = J at *
            obtain ⟨ev, eo, so, co, ⟨hev, hco⟩, R⟩ := RULES CC; rw [← hev]
            rw [← hco] at haw htks htkj
            simp only [fpart, part', Try.f6, Option.getD]
            simp (maxSteps := 5000000) only [SA, SB, SD, R, guardAt, binP, intP, indexAddrP, elemsOf, readCells, lenP, lenAt, resultsP, resultP, oneOr, reduceCtorEq, reduceIte, Nat.reduceEqDiff, Nat.reduceAdd, Nat.zero_add, Nat.reduceMul, Nat.reduceLT, Nat.reduceLeDiff, Int.reduceLT, Int.reduceNeg, Int.reduceLE, appendP, appendAt, letGo, setLoc, locVal, Int.reduceToNat, boxCells, und, TG, SE, hlen, hlent, c1', c2', haw, htks, htkj, hS1, hS2, hc0, hd1, hd2]
            exact ⟨_, rfl⟩
          · have hd2 : (c == 2) = false := by rw [beq_eq_false_iff_ne]; exact d2
            generalize joinL s t = J at *
            obtain ⟨ev, eo, so, co, ⟨hev, hco⟩, R⟩ := RULES CC; rw [← hev]
            rw [← hco] at haw htks htkj
            simp only [fpart, part', Try.f6, Option.getD]
            simp (maxSteps := 5000000) only [SA, SB, SD, R, guardAt, binP, intP, indexAddrP, elemsOf, readCells, lenP, lenAt, resultsP, resultP, oneOr, reduceCtorEq, reduceIte, Nat.reduceEqDiff, Nat.reduceAdd, Nat.zero_add, Nat.reduceMul, Nat.reduceLT, Nat.reduceLeDiff, Int.reduceLT, Int.reduceNeg, Int.reduceLE, appendP, appendAt, letGo, setLoc, locVal, Int.reduceToNat, boxCells, und, TG, SE, hlen, hlent, c1', c2', haw, htks, htkj, hS1, hS2, hc0, hd1, hd2]
            exact ⟨_, rfl⟩
      · obtain ⟨r, q1, q2, q3⟩ := hjoin.2 (by rw [g1])
        have hrr : r0 = r := by
          rw [g1] at q1
          injection q1 with q1 _
          exact List.append_inj_left' q1 rfl
        subst hrr
        rw [g1] at htks
        have hln : (tkVs (r0 ++ [(0, [], s.length)])).length = r0.length + 1 := by unfold tkVs; rw [List.length_map, List.length_append]; rfl
        have hpre : (tkVs (r0 ++ [(0, [], s.length)])).take r0.length = tkVs r0 := by
          unfold tkVs
          rw [List.map_append, List.take_append_of_le_length (by rw [List.length_map]; exact Nat.le_refl _), ← List.length_map (f := tkV), List.take_length]
        have hall : ((tkVs (r0 ++ [(0, [], s.length)])).all fun v => v.cells.length == 3) = true := by
          unfold tkVs
          rw [List.all_map]
          exact List.all_eq_true.2 fun _ _ => rfl
        have hallr : ((tkVs r0).all fun v => v.cells.length == 3) = true := by
          unfold tkVs
          rw [List.all_map]
          exact List.all_eq_true.2 fun _ _ => rfl
        have hlr : (tkVs r0).length = r0.length := by unfold tkVs; rw [List.length_map]
        have hl0 : (((r0.length + 1 : Nat) : Int) == 0) = false := by rw [beq_eq_false_iff_ne]; omega
        have hsub : (((r0.length + 1 : Nat) : Int) - 1) = (r0.length : Int) := by omega
        have hw := wrap_i64 (n := (r0.length : Int)) ⟨by omega, by omega⟩
        have hbnd : (0 : Int) ≤ (r0.length : Int) ∧ (r0.length : Int) ≤ ((r0.length + 1 : Nat) : Int) := by omega
        rcases toks_ord t (by omega) with ⟨a, c, f1, f2, f3⟩ | ⟨k0, f1, f2, f3⟩
        · rw [q3, f1] at htkj
          rw [f1] at htkt
          unfold shR at htkj
          simp only [if_neg f2, hz] at htkj
          simp only [hz] at htkt
          have hc0 : (c != 0) = true := by rw [bne_iff_ne]; exact f2
          have hcc : (c == c) = true := by simp
          have w1 := wrap_i64 (n := (a : Int) + (s.length : Int)) ⟨by omega, by omega⟩
          have w2 := wrap_i64 (n := (a : Int) + (s.length : Int) + 1) ⟨by omega, by omega⟩
          have hee : (((s.length + 1 + a : Nat) : Int) == (a : Int) + (s.length : Int) + 1) = true := by rw [beq_iff_eq]; omega
          generalize joinL s t = J at *
          generalize tkVs (r0 ++ [(0, [], s.length)]) = xs at *
          obtain ⟨ev, eo, so, co, ⟨hev, hco⟩, R⟩ := RULES CC; rw [← hev]
          rw [← hco] at haw htks htkj htkt
          simp only [fpart, part', Try.f6, Option.getD]
          simp (maxSteps := 5000000) only [SA, SB, SD, R, guardAt, binP, intP, indexAddrP, elemsOf, readCells, lenP, lenAt, resultsP, resultP, oneOr, reduceCtorEq, reduceIte, Nat.reduceEqDiff, Nat.reduceAdd, Nat.zero_add, Nat.reduceMul, Nat.reduceLT, Nat.reduceLeDiff, Int.reduceLT, Int.reduceNeg, Int.reduceLE, appendP, appendAt, letGo, setLoc, locVal, Int.reduceToNat, boxCells, und, TG, SE, hlen, hlent, c1', c2', haw, htks, htkt, htkj, hS1, hS2, hc0, hn0, hcc, w1, w2, hee, h00]
          exact ⟨_, rfl⟩
        · have hk1 : (toks t).1 = k0 ++ [(0, [], t.length)] := by rw [f1]
          rw [q3, f1] at htkj
          rw [f1] at htkt
          unfold shR at htkj
          simp only [if_true] at htkj
          have hkb : ∀ x ∈ k0 ++ [(0, [], t.length)], x.2.2 ≤ 1000000 := fun x hx => by
            rcases List.mem_append.1 hx with hx | hx
            · have := ordOK_at f2 x hx; omega
            · rw [List.mem_singleton.1 hx]; show t.length ≤ 1000000; omega
          have hkl : (k0 ++ [(0, [], t.length)]).length ≤ 5000 := by rw [List.length_append, List.length_singleton]; omega
          generalize k0 ++ [(0, [], t.length)] = k at *
          have hloop := fun e bx => loop_LexJoins _ rfl s (by omega) r0 k (by omega) hkl hkb k.length 0 e bx (by omega)
          have hsame := op_Same (r0 ++ k.map (shT (s.length + 1))) (by rw [List.length_append, List.length_map]; omega)
          have hlk : (tkVs k).length = k.length := by unfold tkVs; rw [List.length_map]
          rw [List.take_zero, List.map_nil, List.append_nil] at hloop
          have hc : (tkVs r0).length ≤ 1000000 := by omega
          generalize joinL s t = J at *
          generalize tkVs (r0 ++ [(0, [], s.length)]) = xs at *
          generalize tkVs (r0 ++ k.map (shT (s.length + 1))) = zs at *
          generalize tkVs k = ks at *
          generalize tkVs r0 = rs at *
          obtain ⟨ev, eo, so, co, ⟨hev, hco⟩, R⟩ := RULES CC; rw [← hev]
          rw [← hco] at haw htks htkj htkt hsame
          rw [← hev] at hloop
          simp only [fpart, part', Try.f6, Option.getD] at hloop ⊢
          simp (maxSteps := 5000000) only [SA, SB, SD, R, guardAt, binP, intP, indexAddrP, elemsOf, readCells, lenP, lenAt, resultsP, resultP, oneOr, reduceCtorEq, reduceIte, Nat.reduceEqDiff, Nat.reduceAdd, Nat.zero_add, Nat.reduceMul, Nat.reduceLT, Nat.reduceLeDiff, Int.reduceLT, Int.reduceNeg, Int.reduceLE, appendP, appendAt, letGo, setLoc, locVal, Int.reduceToNat, boxCells, und, TG, SE, hlen, hlent, c1', c2', haw, htks, htkt, htkj, hS1, hS2, hn0, hln, hl0, hsub, hw, sliceP, boundO, boundP, hall, hpre, hbnd, bs0, apTk, hallr, hc, hlk]
          generalize hE : ev _ _ = z
          have hP : ∃ e' bx', z = some (.exit 0, ⟨e', bx'⟩) ∧ getT e' 16 = .osl 32 zs ∧ getT e' 13 = .sl zs ∧ getT e' 14 = .int .i64 ((0 : Nat) : Int) ∧ getT e' 15 = .int .i64 0 := by
            rw [← hE]
            refine hloop _ _ ?_ ?_ ?_ ?_ ?_ .nilp _ _ _ ?_ ?_ ?_
            · simp (maxSteps := 5000000) only [SA, SB, SD, R, guardAt, binP, intP, indexAddrP, elemsOf, readCells, lenP, lenAt, resultsP, resultP, oneOr, reduceCtorEq, reduceIte, Nat.reduceEqDiff, Nat.reduceAdd, Nat.zero_add, Nat.reduceMul, Nat.reduceLT, Nat.reduceLeDiff, Int.reduceLT, Int.reduceNeg, Int.reduceLE, appendP, appendAt, letGo, setLoc, locVal, Int.reduceToNat, boxCells, und]
            · simp (maxSteps := 5000000) only [SA, SB, SD, R, guardAt, binP, intP, indexAddrP, elemsOf, readCells, lenP, lenAt, resultsP, resultP, oneOr, reduceCtorEq, reduceIte, Nat.reduceEqDiff, Nat.reduceAdd, Nat.zero_add, Nat.reduceMul, Nat.reduceLT, Nat.reduceLeDiff, Int.reduceLT, Int.reduceNeg, Int.reduceLE, appendP, appendAt, letGo, setLoc, locVal, Int.reduceToNat, boxCells, und]
            · simp (maxSteps := 5000000) only [SA, SB, SD, R, guardAt, binP, intP, indexAddrP, elemsOf, readCells, lenP, lenAt, resultsP, resultP, oneOr, reduceCtorEq, reduceIte, Nat.reduceEqDiff, Nat.reduceAdd, Nat.zero_add, Nat.reduceMul, Nat.reduceLT, Nat.reduceLeDiff, Int.reduceLT, Int.reduceNeg, Int.reduceLE, appendP, appendAt, letGo, setLoc, locVal, Int.reduceToNat, boxCells, und]
            · simp (maxSteps := 5000000) only [SA, SB, SD, R, guardAt, binP, intP, indexAddrP, elemsOf, readCells, lenP, lenAt, resultsP, resultP, oneOr, reduceCtorEq, reduceIte, Nat.reduceEqDiff, Nat.reduceAdd, Nat.zero_add, Nat.reduceMul, Nat.reduceLT, Nat.reduceLeDiff, Int.reduceLT, Int.reduceNeg, Int.reduceLE, appendP, appendAt, letGo, setLoc, locVal, Int.reduceToNat, boxCells, und]; rfl
            · simp (maxSteps := 5000000) only [SA, SB, SD, R, guardAt, binP, intP, indexAddrP, elemsOf, readCells, lenP, lenAt, resultsP, resultP, oneOr, reduceCtorEq, reduceIte, Nat.reduceEqDiff, Nat.reduceAdd, Nat.zero_add, Nat.reduceMul, Nat.reduceLT, Nat.reduceLeDiff, Int.reduceLT, Int.reduceNeg, Int.reduceLE, appendP, appendAt, letGo, setLoc, locVal, Int.reduceToNat, boxCells, und]
            · simp (maxSteps := 5000000) only [SA, SB, SD, R, guardAt, binP, intP, indexAddrP, elemsOf, readCells, lenP, lenAt, resultsP, resultP, oneOr, reduceCtorEq, reduceIte, Nat.reduceEqDiff, Nat.reduceAdd, Nat.zero_add, Nat.reduceMul, Nat.reduceLT, Nat.reduceLeDiff, Int.reduceLT, Int.reduceNeg, Int.reduceLE, appendP, appendAt, letGo, setLoc, locVal, Int.reduceToNat, boxCells, und]
            · simp (maxSteps := 5000000) only [SA, SB, SD, R, guardAt, binP, intP, indexAddrP, elemsOf, readCells, lenP, lenAt, resultsP, resultP, oneOr, reduceCtorEq, reduceIte, Nat.reduceEqDiff, Nat.reduceAdd, Nat.zero_add, Nat.reduceMul, Nat.reduceLT, Nat.reduceLeDiff, Int.reduceLT, Int.reduceNeg, Int.reduceLE, appendP, appendAt, letGo, setLoc, locVal, Int.reduceToNat, boxCells, und]
            · simp (maxSteps := 5000000) only [SA, SB, SD, R, guardAt, binP, intP, indexAddrP, elemsOf, readCells, lenP, lenAt, resultsP, resultP, oneOr, reduceCtorEq, reduceIte, Nat.reduceEqDiff, Nat.reduceAdd, Nat.zero_add, Nat.reduceMul, Nat.reduceLT, Nat.reduceLeDiff, Int.reduceLT, Int.reduceNeg, Int.reduceLE, appendP, appendAt, letGo, setLoc, locVal, Int.reduceToNat, boxCells, und]
          obtain ⟨e', bx', he, k16, k13, k14, k15⟩ := hP
          subst he
          simp (maxSteps := 5000000) only [SA, SB, SD, R, guardAt, binP, intP, indexAddrP, elemsOf, readCells, lenP, lenAt, resultsP, resultP, oneOr, reduceCtorEq, reduceIte, Nat.reduceEqDiff, Nat.reduceAdd, Nat.zero_add, Nat.reduceMul, Nat.reduceLT, Nat.reduceLeDiff, Int.reduceLT, Int.reduceNeg, Int.reduceLE, appendP, appendAt, letGo, setLoc, locVal, Int.reduceToNat, boxCells, und, TG, SE, haw, k16, k13, k14, k15, hsame, h00]
          exact ⟨_, rfl⟩
end Go.HH
