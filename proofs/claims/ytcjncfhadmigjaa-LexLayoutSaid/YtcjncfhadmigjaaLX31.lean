/-
  Tokens: THE LAW of the layout.
-/
import Derived.Test.YtcjncfhadmigjaaLX30
import Derived.Test.YtcjncfhadmigjaaLX24
namespace Go.HH
open Go Go.Proofs
set_option maxRecDepth 100000
set_option linter.unusedSimpArgs false
set_option linter.unusedVariables false
theorem loop_lay1 (L : List Tk) (hL : L.length ≤ 5000) (c : Code) (hc : c = fpart Try.f7 [1,1,1,1,1,0,1,0]) : ∀ (m i : Nat) (acc : List UInt8) (e : List PV) (bx : List PBox), i + m = L.length → acc.length + (layF (L.drop i) (blB L i)).length ≤ 10000 →
    getT e 3 = .sl (tkVs L) → getT e 25 = .sl (tkVs L) → getT e 26 = .int .i64 L.length → getT e 27 = .int .i64 i → getT e 6 = .str acc → Lay1 L (acc ++ layF (L.drop i) (blB L i)) (evL CC c ⟨e, bx⟩) := by
  intro m
  induction m with
  | zero =>
    intro i acc e bx hm hb h3 h25 h26 h27 h6
    rw [evL_at (fpart Try.f7 [1,1,1,1,1,0,1,0,0]) hc, List.drop_eq_nil_of_le (by omega)]
    have hi : ¬ ((i : Int) < (L.length : Int)) := by omega
    have e0 : acc ++ layF [] (blB L i) = acc := List.append_nil _
    rw [e0]
    obtain ⟨ev, eo, so, co, ⟨hev, hco⟩, R⟩ := RULES CC; rw [← hev]
    simp only [fpart, part', Try.f7, Option.getD]
    simp (maxSteps := 5000000) only [SA, SB, SD, R, guardAt, binP, intP, indexAddrP, elemsOf, readCells, lenP, lenAt, resultsP, resultP, oneOr, reduceCtorEq, reduceIte, Nat.reduceEqDiff, Nat.reduceAdd, Nat.zero_add, Nat.reduceMul, Nat.reduceLT, Nat.reduceLeDiff, Int.reduceLT, Int.reduceNeg, Int.reduceLE, appendP, appendAt, letGo, setLoc, locVal, Int.reduceToNat, boxCells, und, TG, SE, h26, h27, hi]
    exact ⟨_, _, rfl, by simp (maxSteps := 5000000) only [SA, SB, SD, R, guardAt, binP, intP, indexAddrP, elemsOf, readCells, lenP, lenAt, resultsP, resultP, oneOr, reduceCtorEq, reduceIte, Nat.reduceEqDiff, Nat.reduceAdd, Nat.zero_add, Nat.reduceMul, Nat.reduceLT, Nat.reduceLeDiff, Int.reduceLT, Int.reduceNeg, Int.reduceLE, appendP, appendAt, letGo, setLoc, locVal, Int.reduceToNat, boxCells, und, h3], by simp (maxSteps := 5000000) only [SA, SB, SD, R, guardAt, binP, intP, indexAddrP, elemsOf, readCells, lenP, lenAt, resultsP, resultP, oneOr, reduceCtorEq, reduceIte, Nat.reduceEqDiff, Nat.reduceAdd, Nat.zero_add, Nat.reduceMul, Nat.reduceLT, Nat.reduceLeDiff, Int.reduceLT, Int.reduceNeg, Int.reduceLE, appendP, appendAt, letGo, setLoc, locVal, Int.reduceToNat, boxCells, und, h6]⟩
  | succ m ih =>
    intro i acc e bx hm hb h3 h25 h26 h27 h6
    have hil : i < L.length := by omega
    have hx : L[i]? = some L[i] := by simp
    have hdr : L.drop i = L[i] :: L.drop (i + 1) := List.drop_eq_getElem_cons hil
    rw [hdr] at hb ⊢
    generalize L[i] = x at *
    have hbb : blB L (i + 1) = !hashB x := by show (match L[i]? with | some y => !hashB y | none => false) = _; rw [hx]
    have e1 : layF (x :: L.drop (i + 1)) (blB L i) = (if blB L i then [32] else []) ++ formT x ++ layF (L.drop (i + 1)) (!hashB x) := rfl
    rw [e1] at hb ⊢
    rw [List.length_append, List.length_append] at hb
    refine step_lay L _ hL i x hx (blB L i) rfl acc (by omega) c hc (fun e bx h3 h25 h26 h27 h6 => ?_) e bx h3 h25 h26 h27 h6
    have h := ih (i + 1) (acc ++ (if blB L i then [32] else []) ++ formT x) e bx (by omega) (by rw [hbb]; simp only [List.length_append]; omega) h3 h25 h26 (by rw [h27]; rfl) h6
    rw [hbb] at h
    simpa only [List.append_assoc] using h
theorem loop_lay2 (K L : List Tk) (hL : L.length ≤ 5000) (hkl : K.map (fun x => (x.1, x.2.1)) = L.map (fun x => (x.1, x.2.1))) (c : Code) (hc : c = fpart Try.f7 [1,1,1,1,1,1,1,1,0,1,0]) : ∀ (m i : Nat) (e : List PV) (bx : List PBox), i + m = K.length →
    getT e 3 = .sl (tkVs L) → getT e 9 = .sl (tkVs K) → getT e 84 = .int .i64 K.length → getT e 85 = .int .i64 i → ∃ e' bx', evL CC c ⟨e, bx⟩ = some (.exit 2, ⟨e', bx'⟩) := by
  have hlen : K.length = L.length := by have := congrArg List.length hkl; simpa using this
  intro m
  induction m with
  | zero =>
    intro i e bx hm h3 h9 h84 h85
    rw [evL_at (fpart Try.f7 [1,1,1,1,1,1,1,1,0,1,0,0]) hc]
    have hi : ¬ ((i : Int) < (K.length : Int)) := by omega
    generalize tkVs L = xs at *
    generalize tkVs K = ys at *
    obtain ⟨ev, eo, so, co, ⟨hev, hco⟩, R⟩ := RULES CC; rw [← hev]
    simp only [fpart, part', Try.f7, Option.getD]
    simp (maxSteps := 5000000) only [SA, SB, SD, R, guardAt, binP, intP, indexAddrP, elemsOf, readCells, lenP, lenAt, resultsP, resultP, oneOr, reduceCtorEq, reduceIte, Nat.reduceEqDiff, Nat.reduceAdd, Nat.zero_add, Nat.reduceMul, Nat.reduceLT, Nat.reduceLeDiff, Int.reduceLT, Int.reduceNeg, Int.reduceLE, appendP, appendAt, letGo, setLoc, locVal, Int.reduceToNat, boxCells, und, TG, SE, h84, h85, hi]
    exact ⟨_, _, rfl⟩
  | succ m ih =>
    intro i e bx hm h3 h9 h84 h85
    rw [evL_at (fpart Try.f7 [1,1,1,1,1,1,1,1,0,1,0,0]) hc]
    have hi : ((i : Int) < (K.length : Int)) := by omega
    have hi0 : ¬ ((i : Int) < 0) := by omega
    have hw := wrap_i64 (n := (i : Int) + 1) ⟨by omega, by omega⟩
    have hx : K[i]? = some (K[i]'(by omega)) := by simp
    have hy : L[i]? = some (L[i]'(by omega)) := by simp
    have hxy : ((K[i]'(by omega)).1, (K[i]'(by omega)).2.1) = ((L[i]'(by omega)).1, (L[i]'(by omega)).2.1) := by
      have h := congrArg (fun l => l[i]?) hkl
      simp only [List.getElem?_map, hx, hy, Option.map_some] at h
      exact Option.some.inj h
    generalize K[i]'(by omega) = x at *
    generalize L[i]'(by omega) = y at *
    obtain ⟨k, tx, a⟩ := x
    obtain ⟨k', tx', a'⟩ := y
    injection hxy with e1 e2
    simp only at e1 e2
    subst e1 e2
    have hx' : (tkVs K)[i]? = some (.agg [.int .i64 (k : Int), .str tx, .int .i64 (a : Int)]) := by
      unfold tkVs
      rw [List.getElem?_map, hx]
      rfl
    have hy' : (tkVs L)[i]? = some (.agg [.int .i64 (k : Int), .str tx, .int .i64 (a' : Int)]) := by
      unfold tkVs
      rw [List.getElem?_map, hy]
      rfl
    have hk0 : ((k : Int) != (k : Int)) = false := by simp
    have hS : strP .neq tx tx = some (.bool false) := by rw [strP_neq]; simp
    have key := fun e bx => ih (i + 1) e bx (by omega)
    have cast1 : ((i + 1 : Nat) : Int) = (i : Int) + 1 := by omega
    rw [cast1] at key
    obtain ⟨tu, htu⟩ := TKs
    generalize tkVs L = xs at *
    generalize tkVs K = ys at *
    obtain ⟨ev, eo, so, co, ⟨hev, hco⟩, R⟩ := RULES CC; rw [← hev]
    rw [← hev] at key
    simp only [fpart, part', Try.f7, Option.getD]
    simp (maxSteps := 5000000) only [SA, SB, SD, R, guardAt, binP, intP, indexAddrP, elemsOf, readCells, lenP, lenAt, resultsP, resultP, oneOr, reduceCtorEq, reduceIte, Nat.reduceEqDiff, Nat.reduceAdd, Nat.zero_add, Nat.reduceMul, Nat.reduceLT, Nat.reduceLeDiff, Int.reduceLT, Int.reduceNeg, Int.reduceLE, appendP, appendAt, letGo, setLoc, locVal, Int.reduceToNat, boxCells, und, TG, SE, SC, htu, h3, h9, h84, h85, hi, hi0, hx', hy', hk0, hS, hw, List.take_succ_cons, List.take_zero]
    exact key _ _ (by simp (maxSteps := 5000000) only [SA, SB, SD, R, guardAt, binP, intP, indexAddrP, elemsOf, readCells, lenP, lenAt, resultsP, resultP, oneOr, reduceCtorEq, reduceIte, Nat.reduceEqDiff, Nat.reduceAdd, Nat.zero_add, Nat.reduceMul, Nat.reduceLT, Nat.reduceLeDiff, Int.reduceLT, Int.reduceNeg, Int.reduceLE, appendP, appendAt, letGo, setLoc, locVal, Int.reduceToNat, boxCells, und, h3]) (by simp (maxSteps := 5000000) only [SA, SB, SD, R, guardAt, binP, intP, indexAddrP, elemsOf, readCells, lenP, lenAt, resultsP, resultP, oneOr, reduceCtorEq, reduceIte, Nat.reduceEqDiff, Nat.reduceAdd, Nat.zero_add, Nat.reduceMul, Nat.reduceLT, Nat.reduceLeDiff, Int.reduceLT, Int.reduceNeg, Int.reduceLE, appendP, appendAt, letGo, setLoc, locVal, Int.reduceToNat, boxCells, und, h9]) (by simp (maxSteps := 5000000) only [SA, SB, SD, R, guardAt, binP, intP, indexAddrP, elemsOf, readCells, lenP, lenAt, resultsP, resultP, oneOr, reduceCtorEq, reduceIte, Nat.reduceEqDiff, Nat.reduceAdd, Nat.zero_add, Nat.reduceMul, Nat.reduceLT, Nat.reduceLeDiff, Int.reduceLT, Int.reduceNeg, Int.reduceLE, appendP, appendAt, letGo, setLoc, locVal, Int.reduceToNat, boxCells, und, h84]) (by simp (maxSteps := 5000000) only [SA, SB, SD, R, guardAt, binP, intP, indexAddrP, elemsOf, readCells, lenP, lenAt, resultsP, resultP, oneOr, reduceCtorEq, reduceIte, Nat.reduceEqDiff, Nat.reduceAdd, Nat.zero_add, Nat.reduceMul, Nat.reduceLT, Nat.reduceLeDiff, Int.reduceLT, Int.reduceNeg, Int.reduceLE, appendP, appendAt, letGo, setLoc, locVal, Int.reduceToNat, boxCells, und])
theorem toks_eq {s : List UInt8} (h : s.length ≤ 20000) : toks s = tk s (sk s 0) [] := by unfold toks; rw [if_neg (by omega)]; rfl
theorem law_LexLayout (s : List UInt8) (_ : s.length ≤ maxLen) : ∃ bx, callL CC 7 [.str s] [] = some (.ret (.bool true), bx) := by
  rw [callL_enter (fn := Try.f7) (c := Try.f7.body.getD .skip) rfl rfl fat_L27_LexLayout rfl ok_L27_LexLayout (Nat.le_of_ble_eq_true rfl)]
  have hlen := len_str s
  have haw := op_awake
  by_cases c1 : 1000 < s.length
  · have c1' : (s.length : Int) > 1000 := by omega
    obtain ⟨ev, eo, so, co, ⟨hev, hco⟩, R⟩ := RULES CC; rw [← hev]
    rw [← hco] at haw
    simp only [fpart, part', Try.f7, Option.getD]
    simp (maxSteps := 5000000) only [SA, SB, SD, R, guardAt, binP, intP, indexAddrP, elemsOf, readCells, lenP, lenAt, resultsP, resultP, oneOr, reduceCtorEq, reduceIte, Nat.reduceEqDiff, Nat.reduceAdd, Nat.zero_add, Nat.reduceMul, Nat.reduceLT, Nat.reduceLeDiff, Int.reduceLT, Int.reduceNeg, Int.reduceLE, appendP, appendAt, letGo, setLoc, locVal, Int.reduceToNat, boxCells, und, TG, SE, hlen, c1', haw]
    exact ⟨_, rfl⟩
  · have c1' : ¬ (s.length : Int) > 1000 := by omega
    have hop : ∀ x : List UInt8, x.length ≤ 20000 → ∀ bx, callOp CC (callL CC) 10 [.str x] bx = some (.ret (.tup [.sl (tkVs (toks x).1), .int .i64 ((toks x).2.1 : Nat), .int .i64 (toks x).2.2]), bx) := fun x hx bx => by
      obtain ⟨b0, hT⟩ := call_lex_Tokens x (by omega)
      exact callOp_of rfl (by simp only [SA, Bool.and_true]) hT (pureTks _ _ _)
    have htks := hop s (by omega)
    by_cases c2 : (toks s).2.2 = 0
    · have hle := sk_le (s := s) (i := 0) (by omega)
      have hc2 := c2
      rw [toks_eq (by omega)] at hc2
      obtain ⟨r, g1, g2, g3, g4, _⟩ := toks_good s s.length (sk s 0) [] (by omega) hle.2 (sk_idem s _ 0 (Nat.le_refl _) (by omega)) hc2
      rw [← toks_eq (by omega), List.nil_append] at g1
      rw [g1] at htks
      have hlay : layF ((r ++ [(0, [], s.length)]).drop 0) (blB (r ++ [(0, [], s.length)]) 0) = layE r false := layF_end _ _ _
      have hb := g3 false
      have htkt := hop (layE r false) (by omega)
      obtain ⟨q, f1, f2⟩ := toks_again (layE r false) r 0 false [] rfl (Nat.zero_le _) g2 (by simp only [List.length_nil]; omega)
      rw [← toks_eq (by omega), List.nil_append] at f1
      rw [f1] at htkt
      have hkl : (q ++ [(0, [], (layE r false).length)]).map (fun x : Tk => (x.1, x.2.1)) = (r ++ [(0, [], s.length)]).map (fun x : Tk => (x.1, x.2.1)) := by
        rw [List.map_append, List.map_append, f2]; rfl
      have hLl : (r ++ [(0, [], s.length)]).length ≤ 5000 := by rw [List.length_append, List.length_singleton]; omega
      obtain ⟨tl, htl⟩ : ∃ n, n = (layE r false).length := ⟨_, rfl⟩
      rw [← htl] at htkt hkl
      generalize r ++ [(0, [], s.length)] = L at *
      clear f1 f2
      generalize q ++ [(0, [], tl)] = K at *
      have hKL : K.length = L.length := by have := congrArg List.length hkl; simpa using this
      have hloop1 := fun e bx => loop_lay1 L hLl _ rfl L.length 0 [] e bx (by omega) (by rw [hlay]; simp only [List.length_nil]; omega)
      have hloop2 := fun e bx => loop_lay2 K L hLl hkl _ rfl K.length 0 e bx (by omega)
      rw [hlay, List.nil_append] at hloop1
      generalize layE r false = T at *
      have hlL : (tkVs L).length = L.length := by unfold tkVs; rw [List.length_map]
      have hlK : (tkVs K).length = L.length := by unfold tkVs; rw [List.length_map, hKL]
      have hn0 : ((0 : Int) != 0) = false := rfl
      have hll : ((L.length : Int) != (L.length : Int)) = false := by simp
      rw [hKL] at hloop2
      unfold Lay1 at hloop1
      generalize tkVs L = xs at *
      generalize tkVs K = ys at *
      obtain ⟨ev, eo, so, co, ⟨hev, hco⟩, R⟩ := RULES CC; rw [← hev]
      rw [← hco] at haw htks htkt
      rw [← hev] at hloop1 hloop2
      simp only [fpart, part', Try.f7, Option.getD] at hloop1 hloop2 ⊢
      simp (maxSteps := 5000000) only [SA, SB, SD, R, guardAt, binP, intP, indexAddrP, elemsOf, readCells, lenP, lenAt, resultsP, resultP, oneOr, reduceCtorEq, reduceIte, Nat.reduceEqDiff, Nat.reduceAdd, Nat.zero_add, Nat.reduceMul, Nat.reduceLT, Nat.reduceLeDiff, Int.reduceLT, Int.reduceNeg, Int.reduceLE, appendP, appendAt, letGo, setLoc, locVal, Int.reduceToNat, boxCells, und, TG, SE, hlen, c1', htks, hn0, hlL]
      generalize hE : ev _ _ = z
      have hP : ∃ e' bx', z = some (.exit 0, ⟨e', bx'⟩) ∧ getT e' 3 = .sl xs ∧ getT e' 6 = .str T := by
        rw [← hE]
        refine hloop1 _ _ ?_ ?_ ?_ ?_ ?_
        · simp (maxSteps := 5000000) only [SA, SB, SD, R, guardAt, binP, intP, indexAddrP, elemsOf, readCells, lenP, lenAt, resultsP, resultP, oneOr, reduceCtorEq, reduceIte, Nat.reduceEqDiff, Nat.reduceAdd, Nat.zero_add, Nat.reduceMul, Nat.reduceLT, Nat.reduceLeDiff, Int.reduceLT, Int.reduceNeg, Int.reduceLE, appendP, appendAt, letGo, setLoc, locVal, Int.reduceToNat, boxCells, und]
        · simp (maxSteps := 5000000) only [SA, SB, SD, R, guardAt, binP, intP, indexAddrP, elemsOf, readCells, lenP, lenAt, resultsP, resultP, oneOr, reduceCtorEq, reduceIte, Nat.reduceEqDiff, Nat.reduceAdd, Nat.zero_add, Nat.reduceMul, Nat.reduceLT, Nat.reduceLeDiff, Int.reduceLT, Int.reduceNeg, Int.reduceLE, appendP, appendAt, letGo, setLoc, locVal, Int.reduceToNat, boxCells, und]
        · simp (maxSteps := 5000000) only [SA, SB, SD, R, guardAt, binP, intP, indexAddrP, elemsOf, readCells, lenP, lenAt, resultsP, resultP, oneOr, reduceCtorEq, reduceIte, Nat.reduceEqDiff, Nat.reduceAdd, Nat.zero_add, Nat.reduceMul, Nat.reduceLT, Nat.reduceLeDiff, Int.reduceLT, Int.reduceNeg, Int.reduceLE, appendP, appendAt, letGo, setLoc, locVal, Int.reduceToNat, boxCells, und]
        · simp (maxSteps := 5000000) only [SA, SB, SD, R, guardAt, binP, intP, indexAddrP, elemsOf, readCells, lenP, lenAt, resultsP, resultP, oneOr, reduceCtorEq, reduceIte, Nat.reduceEqDiff, Nat.reduceAdd, Nat.zero_add, Nat.reduceMul, Nat.reduceLT, Nat.reduceLeDiff, Int.reduceLT, Int.reduceNeg, Int.reduceLE, appendP, appendAt, letGo, setLoc, locVal, Int.reduceToNat, boxCells, und]; rfl
        · simp (maxSteps := 5000000) only [SA, SB, SD, R, guardAt, binP, intP, indexAddrP, elemsOf, readCells, lenP, lenAt, resultsP, resultP, oneOr, reduceCtorEq, reduceIte, Nat.reduceEqDiff, Nat.reduceAdd, Nat.zero_add, Nat.reduceMul, Nat.reduceLT, Nat.reduceLeDiff, Int.reduceLT, Int.reduceNeg, Int.reduceLE, appendP, appendAt, letGo, setLoc, locVal, Int.reduceToNat, boxCells, und]
      obtain ⟨e', bx', he, k3, k6⟩ := hP
      subst he
      clear hE hloop1
      simp (maxSteps := 5000000) only [SA, SB, SD, R, guardAt, binP, intP, indexAddrP, elemsOf, readCells, lenP, lenAt, resultsP, resultP, oneOr, reduceCtorEq, reduceIte, Nat.reduceEqDiff, Nat.reduceAdd, Nat.zero_add, Nat.reduceMul, Nat.reduceLT, Nat.reduceLeDiff, Int.reduceLT, Int.reduceNeg, Int.reduceLE, appendP, appendAt, letGo, setLoc, locVal, Int.reduceToNat, boxCells, und, TG, SE, k3, k6, htkt, hn0, hlL, hlK, hll]
      generalize hE2 : ev _ _ = z
      have hP : ∃ e' bx', z = some (.exit 2, ⟨e', bx'⟩) := by
        rw [← hE2]
        refine hloop2 _ _ ?_ ?_ ?_ ?_
        · simp (maxSteps := 5000000) only [SA, SB, SD, R, guardAt, binP, intP, indexAddrP, elemsOf, readCells, lenP, lenAt, resultsP, resultP, oneOr, reduceCtorEq, reduceIte, Nat.reduceEqDiff, Nat.reduceAdd, Nat.zero_add, Nat.reduceMul, Nat.reduceLT, Nat.reduceLeDiff, Int.reduceLT, Int.reduceNeg, Int.reduceLE, appendP, appendAt, letGo, setLoc, locVal, Int.reduceToNat, boxCells, und, k3]
        · simp (maxSteps := 5000000) only [SA, SB, SD, R, guardAt, binP, intP, indexAddrP, elemsOf, readCells, lenP, lenAt, resultsP, resultP, oneOr, reduceCtorEq, reduceIte, Nat.reduceEqDiff, Nat.reduceAdd, Nat.zero_add, Nat.reduceMul, Nat.reduceLT, Nat.reduceLeDiff, Int.reduceLT, Int.reduceNeg, Int.reduceLE, appendP, appendAt, letGo, setLoc, locVal, Int.reduceToNat, boxCells, und]
        · simp (maxSteps := 5000000) only [SA, SB, SD, R, guardAt, binP, intP, indexAddrP, elemsOf, readCells, lenP, lenAt, resultsP, resultP, oneOr, reduceCtorEq, reduceIte, Nat.reduceEqDiff, Nat.reduceAdd, Nat.zero_add, Nat.reduceMul, Nat.reduceLT, Nat.reduceLeDiff, Int.reduceLT, Int.reduceNeg, Int.reduceLE, appendP, appendAt, letGo, setLoc, locVal, Int.reduceToNat, boxCells, und]
        · simp (maxSteps := 5000000) only [SA, SB, SD, R, guardAt, binP, intP, indexAddrP, elemsOf, readCells, lenP, lenAt, resultsP, resultP, oneOr, reduceCtorEq, reduceIte, Nat.reduceEqDiff, Nat.reduceAdd, Nat.zero_add, Nat.reduceMul, Nat.reduceLT, Nat.reduceLeDiff, Int.reduceLT, Int.reduceNeg, Int.reduceLE, appendP, appendAt, letGo, setLoc, locVal, Int.reduceToNat, boxCells, und]; rfl
      obtain ⟨e2, bx2, he⟩ := hP
      subst he
      simp (maxSteps := 5000000) only [SA, SB, SD, R, guardAt, binP, intP, indexAddrP, elemsOf, readCells, lenP, lenAt, resultsP, resultP, oneOr, reduceCtorEq, reduceIte, Nat.reduceEqDiff, Nat.reduceAdd, Nat.zero_add, Nat.reduceMul, Nat.reduceLT, Nat.reduceLeDiff, Int.reduceLT, Int.reduceNeg, Int.reduceLE, appendP, appendAt, letGo, setLoc, locVal, Int.reduceToNat, boxCells, und, TG, SE, haw]
      exact ⟨_, rfl⟩
    · have c2' : ((toks s).2.2 != 0) = true := by rw [bne_iff_ne]; exact c2
      generalize tkVs (toks s).1 = xs at *
      obtain ⟨ev, eo, so, co, ⟨hev, hco⟩, R⟩ := RULES CC; rw [← hev]
      rw [← hco] at haw htks
      simp only [fpart, part', Try.f7, Option.getD]
      simp (maxSteps := 5000000) only [SA, SB, SD, R, guardAt, binP, intP, indexAddrP, elemsOf, readCells, lenP, lenAt, resultsP, resultP, oneOr, reduceCtorEq, reduceIte, Nat.reduceEqDiff, Nat.reduceAdd, Nat.zero_add, Nat.reduceMul, Nat.reduceLT, Nat.reduceLeDiff, Int.reduceLT, Int.reduceNeg, Int.reduceLE, appendP, appendAt, letGo, setLoc, locVal, Int.reduceToNat, boxCells, und, TG, SE, hlen, c1', haw, htks, c2']
      exact ⟨_, rfl⟩
end Go.HH
