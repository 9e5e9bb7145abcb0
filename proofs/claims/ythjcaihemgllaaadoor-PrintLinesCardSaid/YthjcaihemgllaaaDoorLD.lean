/-
  Texts of rules: 'Rule'; the law of the lines.
-/
import Derived.Test.YthjcaihemgllaaaDoorLC
namespace Go.HH
open Go Go.Proofs
set_option maxRecDepth 100000
set_option maxHeartbeats 4000000
set_option linter.unusedSimpArgs false
set_option linter.unusedVariables false
theorem ok_L30_PrintLines : fnOK CC Tryd.f3 (Tryd.f3.body.getD .skip) = true := by kernel_rfl
theorem fat_L30_PrintLines : CC.P.funcs[3]? = some Tryd.f3 := by kernel_rfl
theorem conv_bys (l : List UInt8) : convP CC 53 9 (.sl (bys l)) = some (.str l) := by
  show (bytesOf (bys l)).map PV.str = _
  rw [bytesOf_bys]
  rfl
theorem ZPg : zeroCells CC 55 = some [.nils] := by kernel_rfl
theorem PGB_nil : PGB [] = .cells 55 [.nils] := rfl
theorem PGB_ne {l : List UInt8} (h : l ≠ []) : PGB l = .cells 55 [.osl 5 (bys l)] := by
  unfold PGB bufV
  rw [if_neg h]
theorem rlS_ne (r : Rl) : rlS r ≠ [] := by
  unfold rlS
  simp
theorem rlV_cells (r : Rl) : pureL (rlV r).cells = true := by
  have h := rlV_pure r
  unfold rlV at h ⊢
  unfold PV.pure at h
  exact h
theorem op_write (r : Rl) (hp : plRl r = true) (ho : okRl r) (h : rlE r = 0) : callOp CC (callL CC) 15 [putV, rlV r] [.cells 32 (rlV r).cells, PGB []] = some (.ret (.tup []), [.cells 32 (rlV r).cells, PGB (rlS r)]) := by
  obtain ⟨b2, ex, hc⟩ := call_write r hp ho h (.cells 32 (rlV r).cells)
  unfold callOp
  rw [if_pos (by rw [pureL_cons]; rfl), hc]
  simp only [List.length_cons, List.length_nil]
  unfold truncB WB
  rw [if_pos]
  · rfl
  · rw [Bool.and_eq_true]
    refine ⟨rfl, ?_⟩
    simp only [List.take_succ_cons, List.take_zero, List.all_cons, List.all_nil, Bool.and_true, Bool.and_eq_true]
    refine ⟨pureL_under _ _ (rlV_cells r), ?_⟩
    rw [PGB_ne (rlS_ne r)]
    show underL _ [.osl 5 (bys (rlS r))] = true
    simpa [underL, PV.under] using underL_bys _ (rlS r)
/-- what is said of a rule's text -/
def ruT (r : Rl) : List UInt8 := if rlE r = 0 then rlS r else []
theorem call_print_Rule (r : Rl) (hp : plRl r = true) (ho : okRl r) : ∃ bx, callL CC 6 [rlV r] [] = some (.ret (.tup [.str (ruT r), .int .i64 (rlE r)]), bx) := by
  have och := op_print_CheckRl r hp
  have hw := op_write r hp ho
  have hne := rlS_ne r
  unfold ruT
  rw [PGB_nil, PGB_ne hne] at hw
  have hcv := conv_bys (rlS r)
  generalize rlS r = s at *
  generalize rlE r = er at *
  clear hp ho hne
  obtain ⟨nm, pr, on, ife, dos⟩ := r
  unfold rlV trC at *
  obtain ⟨zk, zn, zm, znm, zv, zkey, zkids⟩ := ife
  unfold trV at *
  simp only [SA, List.cons_append, List.nil_append] at och hw ⊢
  have hpz := trVs_pure zkids
  have hpx := tgs_pure on
  have hpy := sps_pure dos
  generalize trVs zkids = zs at *
  generalize on.map tgV = xs at *
  generalize dos.map spV = ys at *
  generalize bys s = bs at *
  obtain ⟨tu, htu⟩ := VLs
  obtain ⟨tr, htr⟩ := TRs
  obtain ⟨tk, hky⟩ := KYs
  obtain ⟨te, hev1⟩ := EVs
  obtain ⟨tg, htg⟩ := TG_s
  obtain ⟨tp, hsp⟩ := SPs
  obtain ⟨tl, hrl⟩ := RLs
  have zp := ZPg
  rw [callL_enter (fn := Tryd.f6) (c := Tryd.f6.body.getD .skip) rfl rfl fat_print_Rule rfl ok_print_Rule (Nat.le_of_ble_eq_true rfl)]
  by_cases h : er = 0
  · subst h
    have hw := hw rfl
    unfold putV at hw
    rw [if_pos rfl]
    obtain ⟨ev, eo, so, co, ⟨hev, hco⟩, R⟩ := RULES CC; rw [← hev]
    rw [← hco] at och hw
    simp only [fpart, part', Tryd.f6, Option.getD]
    simp (maxSteps := 5000000) only [SA, SB, SD, R, guardAt, binP, intP, indexAddrP, elemsOf, readCells, lenP, lenAt, resultsP, resultP, oneOr, reduceCtorEq, reduceIte, Nat.reduceEqDiff, Nat.reduceAdd, Nat.zero_add, Nat.reduceMul, Nat.reduceLT, Nat.reduceLeDiff, Int.reduceLT, Int.reduceNeg, Int.reduceLE, appendP, appendAt, letGo, setLoc, locVal, Int.reduceToNat, boxCells, und, TG, SE, SC, List.getElem?_cons_zero, List.getElem?_cons_succ, unP, extP, htu, htr, hky, hev1, htg, hsp, hrl, dynR, callAl, loadR, loadP, storeR, storeK, storeCellsP, laid, lay, setBox, List.take_succ_cons, List.take_zero, List.take_nil, List.drop_succ_cons, List.drop_zero, List.drop_nil, List.filter_nil, List.cons_append, List.nil_append, Nat.le_refl, Int.reduceBEq, Int.reduceBNe, Int.reduceGT, Int.reduceGE, Int.reduceLT, beq_self_eq_true, Bool.not_true, Bool.not_false, och, hw, hcv, zp, hpx, hpy, hpz]
    exact ⟨_, rfl⟩
  · rw [if_neg h]
    clear hw
    have p : (er != 0) = true := by simpa using h
    obtain ⟨ev, eo, so, co, ⟨hev, hco⟩, R⟩ := RULES CC; rw [← hev]
    rw [← hco] at och
    simp only [fpart, part', Tryd.f6, Option.getD]
    simp (maxSteps := 5000000) only [SA, SB, SD, R, guardAt, binP, intP, indexAddrP, elemsOf, readCells, lenP, lenAt, resultsP, resultP, oneOr, reduceCtorEq, reduceIte, Nat.reduceEqDiff, Nat.reduceAdd, Nat.zero_add, Nat.reduceMul, Nat.reduceLT, Nat.reduceLeDiff, Int.reduceLT, Int.reduceNeg, Int.reduceLE, appendP, appendAt, letGo, setLoc, locVal, Int.reduceToNat, boxCells, und, TG, SE, SC, List.getElem?_cons_zero, List.getElem?_cons_succ, unP, extP, htu, htr, hky, hev1, htg, hsp, hrl, dynR, callAl, loadR, loadP, storeR, storeK, storeCellsP, laid, lay, setBox, List.take_succ_cons, List.take_zero, List.take_nil, List.drop_succ_cons, List.drop_zero, List.drop_nil, List.filter_nil, List.cons_append, List.nil_append, Nat.le_refl, Int.reduceBEq, Int.reduceBNe, Int.reduceGT, Int.reduceGE, Int.reduceLT, beq_self_eq_true, Bool.not_true, Bool.not_false, och, p, hpx, hpy, hpz]
    exact ⟨_, rfl⟩
theorem op_print_Rule (r : Rl) (hp : plRl r = true) (ho : okRl r) (bx) : callOp CC (callL CC) 6 [rlV r] bx = some (.ret (.tup [.str (ruT r), .int .i64 (rlE r)]), bx) := by
  obtain ⟨b, hc⟩ := call_print_Rule r hp ho
  exact callOp_of rfl (by simp only [pureL_cons, rlV_pure, pureL_nil, Bool.and_self]) hc rfl
theorem nlC_le : ∀ l : List UInt8, nlC l ≤ l.length
  | [] => Nat.le_refl _
  | c :: r => by
    have := nlC_le r
    show (if c = 10 then 1 else 0) + nlC r ≤ _
    rw [List.length_cons]
    split <;> omega
/-- what the law's loop leaves -/
def PLn (s : List UInt8) (w : PV) (n : Nat) (bx : List PBox) (res : Option (Ex × St)) : Prop := ∃ e', res = some (.exit 0, ⟨e', bx⟩) ∧ getT e' 1 = .bp 0 0 ∧ getT e' 3 = .str s ∧ getT e' 5 = w ∧ getT e' 6 = .int .i64 (n : Int)
theorem loop_PL (L : Code) (hL : L = fpart Tryd.f3 [1,1,1,1,1,1,1,0,1,0]) (s : List UInt8) (hs : s.length ≤ 90000000) (w : PV) (bx : List PBox) : ∀ (k i n : Nat) (e : List PV), i + k = s.length → (s.drop i).all lnB = true → n ≤ i →
    getT e 1 = .bp 0 0 → getT e 3 = .str s → getT e 5 = w → getT e 6 = .int .i64 (n : Int) → getT e 7 = .int .i64 (i : Int) → PLn s w (n + nlC (s.drop i)) bx (evL CC L ⟨e, bx⟩) := by
  intro k
  induction k with
  | zero =>
    intro i n e hi0 ha hn e1 e3 e5 e6 e7
    rw [evL_at (fpart Tryd.f3 [1,1,1,1,1,1,1,0,1,0,0]) hL]
    have hi : ¬ ((i : Int) < (s.length : Int)) := by omega
    obtain ⟨tu, htu⟩ := VLs
    obtain ⟨tr, htr⟩ := TRs
    obtain ⟨tk, hky⟩ := KYs
    obtain ⟨te, hev1⟩ := EVs
    obtain ⟨tg, htg⟩ := TG_s
    obtain ⟨tp, hsp⟩ := SPs
    obtain ⟨tl, hrl⟩ := RLs
    have hlen := len_str s
    rw [List.drop_eq_nil_of_le (by omega)]
    have e0 : n + nlC [] = n := rfl
    rw [e0]
    clear ha hi0
    obtain ⟨ev, eo, so, co, ⟨hev, hco⟩, R⟩ := RULES CC; rw [← hev]
    simp only [fpart, part', Tryd.f3, Option.getD]
    simp (maxSteps := 5000000) only [SA, SB, SD, R, guardAt, binP, intP, indexAddrP, elemsOf, readCells, lenP, lenAt, resultsP, resultP, oneOr, reduceCtorEq, reduceIte, Nat.reduceEqDiff, Nat.reduceAdd, Nat.zero_add, Nat.reduceMul, Nat.reduceLT, Nat.reduceLeDiff, Int.reduceLT, Int.reduceNeg, Int.reduceLE, appendP, appendAt, letGo, setLoc, locVal, Int.reduceToNat, boxCells, und, TG, SE, SC, List.getElem?_cons_zero, List.getElem?_cons_succ, unP, extP, htu, htr, hky, hev1, htg, hsp, hrl, dynR, callAl, loadR, loadP, storeR, storeK, storeCellsP, laid, lay, setBox, List.take_succ_cons, List.take_zero, List.take_nil, List.drop_succ_cons, List.drop_zero, List.drop_nil, List.filter_nil, List.cons_append, List.nil_append, Nat.le_refl, Int.reduceBEq, Int.reduceBNe, Int.reduceGT, Int.reduceGE, Int.reduceLT, beq_self_eq_true, Bool.not_true, Bool.not_false, e1, e3, e5, e6, e7, hi, hlen]
    exact ⟨_, rfl, by simp (maxSteps := 5000000) only [SA, SB, SD, R, guardAt, binP, intP, indexAddrP, elemsOf, readCells, lenP, lenAt, resultsP, resultP, oneOr, reduceCtorEq, reduceIte, Nat.reduceEqDiff, Nat.reduceAdd, Nat.zero_add, Nat.reduceMul, Nat.reduceLT, Nat.reduceLeDiff, Int.reduceLT, Int.reduceNeg, Int.reduceLE, appendP, appendAt, letGo, setLoc, locVal, Int.reduceToNat, boxCells, und, e1], by simp (maxSteps := 5000000) only [SA, SB, SD, R, guardAt, binP, intP, indexAddrP, elemsOf, readCells, lenP, lenAt, resultsP, resultP, oneOr, reduceCtorEq, reduceIte, Nat.reduceEqDiff, Nat.reduceAdd, Nat.zero_add, Nat.reduceMul, Nat.reduceLT, Nat.reduceLeDiff, Int.reduceLT, Int.reduceNeg, Int.reduceLE, appendP, appendAt, letGo, setLoc, locVal, Int.reduceToNat, boxCells, und, e3], by simp (maxSteps := 5000000) only [SA, SB, SD, R, guardAt, binP, intP, indexAddrP, elemsOf, readCells, lenP, lenAt, resultsP, resultP, oneOr, reduceCtorEq, reduceIte, Nat.reduceEqDiff, Nat.reduceAdd, Nat.zero_add, Nat.reduceMul, Nat.reduceLT, Nat.reduceLeDiff, Int.reduceLT, Int.reduceNeg, Int.reduceLE, appendP, appendAt, letGo, setLoc, locVal, Int.reduceToNat, boxCells, und, e5], by simp (maxSteps := 5000000) only [SA, SB, SD, R, guardAt, binP, intP, indexAddrP, elemsOf, readCells, lenP, lenAt, resultsP, resultP, oneOr, reduceCtorEq, reduceIte, Nat.reduceEqDiff, Nat.reduceAdd, Nat.zero_add, Nat.reduceMul, Nat.reduceLT, Nat.reduceLeDiff, Int.reduceLT, Int.reduceNeg, Int.reduceLE, appendP, appendAt, letGo, setLoc, locVal, Int.reduceToNat, boxCells, und, e6]⟩
  | succ k ih =>
    intro i n e hi0 ha hn e1 e3 e5 e6 e7
    rw [evL_at (fpart Tryd.f3 [1,1,1,1,1,1,1,0,1,0,0]) hL]
    have hi : ((i : Int) < (s.length : Int)) := by omega
    have hi0' : ¬ ((i : Int) < 0) := by omega
    obtain ⟨tu, htu⟩ := VLs
    obtain ⟨tr, htr⟩ := TRs
    obtain ⟨tk, hky⟩ := KYs
    obtain ⟨te, hev1⟩ := EVs
    obtain ⟨tg, htg⟩ := TG_s
    obtain ⟨tp, hsp⟩ := SPs
    obtain ⟨tl, hrl⟩ := RLs
    have hlen := len_str s
    have hdr : s.drop i = (s[i]'(by omega)) :: s.drop (i + 1) := List.drop_eq_getElem_cons (by omega)
    have hx := ix_str s i (s[i]'(by omega)) (List.getElem?_eq_getElem (by omega))
    have hw1 := wrap_i64 (n := (i : Int) + 1) ⟨by omega, by omega⟩
    have hw2 := wrap_i64 (n := (n : Int) + 1) ⟨by omega, by omega⟩
    have cast1 : ((i + 1 : Nat) : Int) = (i : Int) + 1 := by omega
    have cast2 : ((n + 1 : Nat) : Int) = (n : Int) + 1 := by omega
    rw [hdr, List.all_cons, Bool.and_eq_true] at ha
    obtain ⟨hc, ha⟩ := ha
    rw [hdr]
    generalize s[i]'(by omega) = c at *
    show PLn s w (n + ((if c = 10 then 1 else 0) + nlC (s.drop (i + 1)))) bx _
    by_cases c10 : c = 10
    · rw [if_pos c10, ← Nat.add_assoc]
      have key := fun e => ih (i + 1) (n + 1) e (by omega) ha (by omega)
      rw [cast1, cast2] at key
      subst c10
      have t10 : (((10 : UInt8).toNat : Int)) = 10 := rfl
      rw [t10] at hx
      clear hc ha hi0 ih
      obtain ⟨ev, eo, so, co, ⟨hev, hco⟩, R⟩ := RULES CC; rw [← hev]
      rw [← hev] at key
      simp only [fpart, part', Tryd.f3, Option.getD]
      simp (maxSteps := 5000000) only [SA, SB, SD, R, guardAt, binP, intP, indexAddrP, elemsOf, readCells, lenP, lenAt, resultsP, resultP, oneOr, reduceCtorEq, reduceIte, Nat.reduceEqDiff, Nat.reduceAdd, Nat.zero_add, Nat.reduceMul, Nat.reduceLT, Nat.reduceLeDiff, Int.reduceLT, Int.reduceNeg, Int.reduceLE, appendP, appendAt, letGo, setLoc, locVal, Int.reduceToNat, boxCells, und, TG, SE, SC, List.getElem?_cons_zero, List.getElem?_cons_succ, unP, extP, htu, htr, hky, hev1, htg, hsp, hrl, dynR, callAl, loadR, loadP, storeR, storeK, storeCellsP, laid, lay, setBox, List.take_succ_cons, List.take_zero, List.take_nil, List.drop_succ_cons, List.drop_zero, List.drop_nil, List.filter_nil, List.cons_append, List.nil_append, Nat.le_refl, Int.reduceBEq, Int.reduceBNe, Int.reduceGT, Int.reduceGE, Int.reduceLT, beq_self_eq_true, Bool.not_true, Bool.not_false, e1, e3, e5, e6, e7, hi, hi0', hlen, hx, hw1, hw2]
      refine key _ ?_ ?_ ?_ ?_ ?_
      all_goals simp (maxSteps := 5000000) only [SA, SB, SD, R, guardAt, binP, intP, indexAddrP, elemsOf, readCells, lenP, lenAt, resultsP, resultP, oneOr, reduceCtorEq, reduceIte, Nat.reduceEqDiff, Nat.reduceAdd, Nat.zero_add, Nat.reduceMul, Nat.reduceLT, Nat.reduceLeDiff, Int.reduceLT, Int.reduceNeg, Int.reduceLE, appendP, appendAt, letGo, setLoc, locVal, Int.reduceToNat, boxCells, und, e1, e3, e5, e6, e7]
    · rw [if_neg c10, Nat.zero_add]
      have key := fun e => ih (i + 1) n e (by omega) ha (by omega)
      rw [cast1] at key
      have hb : okB c = true := by
        unfold lnB at hc
        have : (c == 10) = false := by simpa using c10
        rw [this, Bool.false_or] at hc
        exact hc
      unfold okB at hb
      rw [Bool.and_eq_true] at hb
      have b1 := of_decide_eq_true hb.1
      have b2 := of_decide_eq_true hb.2
      have n10 : ((c.toNat : Int) == 10) = false := by
        have : c.toNat ≠ 10 := fun h => c10 (UInt8.toNat_inj.1 h)
        have : (c.toNat : Int) ≠ 10 := by omega
        simpa using this
      have n1 : ¬ (c.toNat : Int) < 32 := by omega
      have n2 : ¬ (c.toNat : Int) > 126 := by omega
      clear hc ha hi0 ih hb b1 b2 c10
      generalize (c.toNat : Int) = cn at *
      obtain ⟨ev, eo, so, co, ⟨hev, hco⟩, R⟩ := RULES CC; rw [← hev]
      rw [← hev] at key
      simp only [fpart, part', Tryd.f3, Option.getD]
      simp (maxSteps := 5000000) only [SA, SB, SD, R, guardAt, binP, intP, indexAddrP, elemsOf, readCells, lenP, lenAt, resultsP, resultP, oneOr, reduceCtorEq, reduceIte, Nat.reduceEqDiff, Nat.reduceAdd, Nat.zero_add, Nat.reduceMul, Nat.reduceLT, Nat.reduceLeDiff, Int.reduceLT, Int.reduceNeg, Int.reduceLE, appendP, appendAt, letGo, setLoc, locVal, Int.reduceToNat, boxCells, und, TG, SE, SC, List.getElem?_cons_zero, List.getElem?_cons_succ, unP, extP, htu, htr, hky, hev1, htg, hsp, hrl, dynR, callAl, loadR, loadP, storeR, storeK, storeCellsP, laid, lay, setBox, List.take_succ_cons, List.take_zero, List.take_nil, List.drop_succ_cons, List.drop_zero, List.drop_nil, List.filter_nil, List.cons_append, List.nil_append, Nat.le_refl, Int.reduceBEq, Int.reduceBNe, Int.reduceGT, Int.reduceGE, Int.reduceLT, beq_self_eq_true, Bool.not_true, Bool.not_false, e1, e3, e5, e6, e7, hi, hi0', hlen, hx, hw1, hw2, n10, n1, n2]
      refine key _ ?_ ?_ ?_ ?_ ?_
      all_goals simp (maxSteps := 5000000) only [SA, SB, SD, R, guardAt, binP, intP, indexAddrP, elemsOf, readCells, lenP, lenAt, resultsP, resultP, oneOr, reduceCtorEq, reduceIte, Nat.reduceEqDiff, Nat.reduceAdd, Nat.zero_add, Nat.reduceMul, Nat.reduceLT, Nat.reduceLeDiff, Int.reduceLT, Int.reduceNeg, Int.reduceLE, appendP, appendAt, letGo, setLoc, locVal, Int.reduceToNat, boxCells, und, e1, e3, e5, e6, e7]
theorem rlS_last (r : Rl) : (rlS r)[(rlS r).length - 1]? = some 10 := by
  unfold rlS
  generalize hdS r ++ r.on.flatMap onS ++ (if yesB r.ife = true then [] else ifS r.ife) ++ r.dos.flatMap doS = a
  have e : a ++ [125, 10] = (a ++ [125]) ++ [10] := by rw [List.append_assoc]; rfl
  rw [e, List.length_append, List.length_singleton, Nat.add_sub_cancel, List.getElem?_concat_length]
theorem rlS_len {r : Rl} (hp : plRl r = true) (ho : okRl r) (h : rlE r = 0) : (rlS r).length ≤ 3000000 := by
  obtain ⟨g1, g2, g3, g4, g5, g6⟩ := plRl_len hp
  obtain ⟨p1, p2, p3, p4, p5, p6⟩ := rlE_parts h
  have hhd := hd_len g1 (r := r) ⟨by omega, by omega⟩
  have t3 := (TX_len g4 ho.2.2.2.2.1 p5).2.2 0
  have lon := flatMap_len onS 1007 r.on fun t ht => on_len (ev_len (g5 t ht) (p4 t ht))
  have ldo := flatMap_len doS 141007 r.dos fun s hs => do_len (ac_len (g6 s hs) (ho.2.2.2.2.2.2 s hs).2.2.2 (p6 s hs))
  have lif : (if yesB r.ife = true then [] else ifS r.ife).length ≤ 140009 := by
    split
    · simp
    · unfold ifS
      rw [cat_len, cat_len]
      simp only [List.length_cons, List.length_nil]
      omega
  unfold rlS
  simp only [List.length_append, List.length_cons, List.length_nil]
  omega
theorem law_PrintLines (r : Rl) (hr : okRl r) : ∃ bx, callL CC 3 [rlV r] [] = some (.ret (.bool true), bx) := by
  have opl := op_plain r
  have oaw := op_awake
  have ofl := op_Flag true
  have hfl : trV (flT (if true then 1 else 0)) = leafV 1 0 0 [] (1, 1, []) (0, [], []) := rfl
  rw [hfl] at ofl
  cases hpl : plRl r with
  | false =>
    rw [hpl] at opl
    obtain ⟨nm, pr, on, ife, dos⟩ := r
    unfold rlV trC at *
    obtain ⟨zk, zn, zm, znm, zv, zkey, zkids⟩ := ife
    unfold trV at *
    simp only [SA, List.cons_append, List.nil_append] at opl ⊢
    have hpz := trVs_pure zkids
    have hpx := tgs_pure on
    have hpy := sps_pure dos
    generalize trVs zkids = zs at *
    generalize on.map tgV = xs at *
    generalize dos.map spV = ys at *
    clear hr hpl
    rw [callL_enter (fn := Tryd.f3) (c := Tryd.f3.body.getD .skip) rfl rfl fat_L30_PrintLines rfl ok_L30_PrintLines (Nat.le_of_ble_eq_true rfl)]
    obtain ⟨tu, htu⟩ := VLs
    obtain ⟨tr, htr⟩ := TRs
    obtain ⟨tk, hky⟩ := KYs
    obtain ⟨te, hev1⟩ := EVs
    obtain ⟨tg, htg⟩ := TG_s
    obtain ⟨tp, hsp⟩ := SPs
    obtain ⟨tl, hrl⟩ := RLs
    obtain ⟨ev, eo, so, co, ⟨hev, hco⟩, R⟩ := RULES CC; rw [← hev]
    rw [← hco] at opl oaw
    simp only [fpart, part', Tryd.f3, Option.getD]
    simp (maxSteps := 5000000) only [SA, SB, SD, R, guardAt, binP, intP, indexAddrP, elemsOf, readCells, lenP, lenAt, resultsP, resultP, oneOr, reduceCtorEq, reduceIte, Nat.reduceEqDiff, Nat.reduceAdd, Nat.zero_add, Nat.reduceMul, Nat.reduceLT, Nat.reduceLeDiff, Int.reduceLT, Int.reduceNeg, Int.reduceLE, appendP, appendAt, letGo, setLoc, locVal, Int.reduceToNat, boxCells, und, TG, SE, SC, List.getElem?_cons_zero, List.getElem?_cons_succ, unP, extP, htu, htr, hky, hev1, htg, hsp, hrl, dynR, callAl, loadR, loadP, storeR, storeK, storeCellsP, laid, lay, setBox, List.take_succ_cons, List.take_zero, List.take_nil, List.drop_succ_cons, List.drop_zero, List.drop_nil, List.filter_nil, List.cons_append, List.nil_append, Nat.le_refl, Int.reduceBEq, Int.reduceBNe, Int.reduceGT, Int.reduceGE, Int.reduceLT, beq_self_eq_true, Bool.not_true, Bool.not_false, opl, oaw, hpx, hpy, hpz]
    exact ⟨_, rfl⟩
  | true =>
    rw [hpl] at opl
    have oru := op_print_Rule r hpl hr
    have och := op_print_CheckRl r hpl
    have osm := op_R28_Same r.ife 1 0 0 [] (1, 1, []) (0, [], [])
    have hys : smB r.ife 1 0 0 [] (1, 1, []) (0, [], []) = yesB r.ife := rfl
    rw [hys] at osm
    obtain ⟨g1, g2, g3, g4, g5, g6⟩ := plRl_len hpl
    clear g4 g5 g6
    by_cases h0 : rlE r = 0
    · have hln := lnL_rl h0
      have hla := rlS_last r
      have hle := rlS_len hpl hr h0
      have hru : ruT r = rlS r := by unfold ruT; rw [if_pos h0]
      rw [hru, h0] at oru
      have hne := rlS_ne r
      clear h0 hru hpl hr
      generalize rlS r = s at *
      obtain ⟨ha, hn⟩ := hln
      have hpos : 0 < s.length := by cases s with | nil => exact absurd rfl hne | cons _ _ => simp
      have hix := ix_str s (s.length - 1) 10 hla
      have cst : ((s.length - 1 : Nat) : Int) = (s.length : Int) - 1 := by omega
      rw [cst] at hix
      have t10 : (((10 : UInt8).toNat : Int)) = 10 := rfl
      rw [t10] at hix
      have hwl := wrap_i64 (n := (s.length : Int) - 1) ⟨by omega, by omega⟩
      have hlen := len_str s
      clear hla hne cst t10
      obtain ⟨nm, pr, on, ife, dos⟩ := r
      simp only at g1 g2 g3 hn osm
      have l1 : (on.map tgV).length = on.length := List.length_map _
      have l2 : (dos.map spV).length = dos.length := List.length_map _
      have w1 := wrap_i64 (n := 2 + (on.length : Int)) ⟨by omega, by omega⟩
      have w2 := wrap_i64 (n := 2 + (on.length : Int) + (dos.length : Int)) ⟨by omega, by omega⟩
      have w3 := wrap_i64 (n := 2 + (on.length : Int) + (dos.length : Int) + 1) ⟨by omega, by omega⟩
      have hloop := fun w bx e => loop_PL _ rfl s (by omega) w bx s.length 0 0 e (by omega) (by rw [List.drop_zero]; exact ha) (by omega)
      rw [List.drop_zero, Nat.zero_add, hn] at hloop
      generalize yesB ife = yb at *
      unfold leafV at osm ofl
      unfold rlV trC at *
      obtain ⟨zk, zn, zm, znm, zv, zkey, zkids⟩ := ife
      unfold trV at *
      simp only [SA, List.cons_append, List.nil_append] at opl oru och osm ⊢
      have hpz := trVs_pure zkids
      have hpx := tgs_pure on
      have hpy := sps_pure dos
      generalize trVs zkids = zs at *
      generalize on.map tgV = xs at *
      generalize dos.map spV = ys at *
      clear ha hn g1 g2 g3 hpos och
      rw [callL_enter (fn := Tryd.f3) (c := Tryd.f3.body.getD .skip) rfl rfl fat_L30_PrintLines rfl ok_L30_PrintLines (Nat.le_of_ble_eq_true rfl)]
      obtain ⟨tu, htu⟩ := VLs
      obtain ⟨tr, htr⟩ := TRs
      obtain ⟨tk, hky⟩ := KYs
      obtain ⟨te, hev1⟩ := EVs
      obtain ⟨tg, htg⟩ := TG_s
      obtain ⟨tp, hsp⟩ := SPs
      obtain ⟨tl, hrl⟩ := RLs
      cases yb with
      | true =>
        have e0 : 2 + on.length + dos.length + (if true = true then 0 else 1) = 2 + on.length + dos.length := rfl
        rw [e0] at hloop
        clear e0
        have hq : (((2 + on.length + dos.length : Nat) : Int)) = 2 + (on.length : Int) + (dos.length : Int) := by omega
        have hgt : 2 + (on.length : Int) + (dos.length : Int) > 0 := by omega
        obtain ⟨ev, eo, so, co, ⟨hev, hco⟩, R⟩ := RULES CC; rw [← hev]
        rw [← hco] at opl oaw oru osm ofl
        rw [← hev] at hloop
        simp only [fpart, part', Tryd.f3, Option.getD] at hloop ⊢
        simp (maxSteps := 5000000) only [SA, SB, SD, R, guardAt, binP, intP, indexAddrP, elemsOf, readCells, lenP, lenAt, resultsP, resultP, oneOr, reduceCtorEq, reduceIte, Nat.reduceEqDiff, Nat.reduceAdd, Nat.zero_add, Nat.reduceMul, Nat.reduceLT, Nat.reduceLeDiff, Int.reduceLT, Int.reduceNeg, Int.reduceLE, appendP, appendAt, letGo, setLoc, locVal, Int.reduceToNat, boxCells, und, TG, SE, SC, List.getElem?_cons_zero, List.getElem?_cons_succ, unP, extP, htu, htr, hky, hev1, htg, hsp, hrl, dynR, callAl, loadR, loadP, storeR, storeK, storeCellsP, laid, lay, setBox, List.take_succ_cons, List.take_zero, List.take_nil, List.drop_succ_cons, List.drop_zero, List.drop_nil, List.filter_nil, List.cons_append, List.nil_append, Nat.le_refl, Int.reduceBEq, Int.reduceBNe, Int.reduceGT, Int.reduceGE, Int.reduceLT, beq_self_eq_true, Bool.not_true, Bool.not_false, opl, oaw, oru, osm, ofl, l1, l2, w1, w2, w3, hpx, hpy, hpz]
        generalize hE : ev (Code.loop _) _ = z
        have hP : PLn s (.int .i64 (2 + (on.length : Int) + (dos.length : Int))) (2 + on.length + dos.length) [.cells 32 [.str nm, .int .i64 pr, .sl xs, .int .i64 zk, .int .i64 zn, .int .i64 zm, .str znm, .int .i64 zv.1, .int .i64 zv.2.1, .str zv.2.2, .int .i64 zkey.1, .str zkey.2.1, .str zkey.2.2, .sl zs, .sl ys]] z := by
          rw [← hE]
          refine hloop _ _ _ ?_ ?_ ?_ ?_ ?_
          all_goals first | (simp (maxSteps := 5000000) only [SA, SB, SD, R, guardAt, binP, intP, indexAddrP, elemsOf, readCells, lenP, lenAt, resultsP, resultP, oneOr, reduceCtorEq, reduceIte, Nat.reduceEqDiff, Nat.reduceAdd, Nat.zero_add, Nat.reduceMul, Nat.reduceLT, Nat.reduceLeDiff, Int.reduceLT, Int.reduceNeg, Int.reduceLE, appendP, appendAt, letGo, setLoc, locVal, Int.reduceToNat, boxCells, und]; done) | (simp (maxSteps := 5000000) only [SA, SB, SD, R, guardAt, binP, intP, indexAddrP, elemsOf, readCells, lenP, lenAt, resultsP, resultP, oneOr, reduceCtorEq, reduceIte, Nat.reduceEqDiff, Nat.reduceAdd, Nat.zero_add, Nat.reduceMul, Nat.reduceLT, Nat.reduceLeDiff, Int.reduceLT, Int.reduceNeg, Int.reduceLE, appendP, appendAt, letGo, setLoc, locVal, Int.reduceToNat, boxCells, und]; rfl)
        obtain ⟨e', rfl, m1, m3, m5, m6⟩ := hP
        rw [hq] at m6
        simp (maxSteps := 5000000) only [SA, SB, SD, R, guardAt, binP, intP, indexAddrP, elemsOf, readCells, lenP, lenAt, resultsP, resultP, oneOr, reduceCtorEq, reduceIte, Nat.reduceEqDiff, Nat.reduceAdd, Nat.zero_add, Nat.reduceMul, Nat.reduceLT, Nat.reduceLeDiff, Int.reduceLT, Int.reduceNeg, Int.reduceLE, appendP, appendAt, letGo, setLoc, locVal, Int.reduceToNat, boxCells, und, TG, SE, SC, List.getElem?_cons_zero, List.getElem?_cons_succ, unP, extP, htu, htr, hky, hev1, htg, hsp, hrl, dynR, callAl, loadR, loadP, storeR, storeK, storeCellsP, laid, lay, setBox, List.take_succ_cons, List.take_zero, List.take_nil, List.drop_succ_cons, List.drop_zero, List.drop_nil, List.filter_nil, List.cons_append, List.nil_append, Nat.le_refl, Int.reduceBEq, Int.reduceBNe, Int.reduceGT, Int.reduceGE, Int.reduceLT, beq_self_eq_true, Bool.not_true, Bool.not_false, m1, m3, m5, m6, hgt, hwl, hlen, hix, oaw]
        exact ⟨_, rfl⟩
      | false =>
        have e0 : 2 + on.length + dos.length + (if false = true then 0 else 1) = 2 + on.length + dos.length + 1 := rfl
        rw [e0] at hloop
        clear e0
        have hq : (((2 + on.length + dos.length + 1 : Nat) : Int)) = 2 + (on.length : Int) + (dos.length : Int) + 1 := by omega
        have hgt : 2 + (on.length : Int) + (dos.length : Int) + 1 > 0 := by omega
        obtain ⟨ev, eo, so, co, ⟨hev, hco⟩, R⟩ := RULES CC; rw [← hev]
        rw [← hco] at opl oaw oru osm ofl
        rw [← hev] at hloop
        simp only [fpart, part', Tryd.f3, Option.getD] at hloop ⊢
        simp (maxSteps := 5000000) only [SA, SB, SD, R, guardAt, binP, intP, indexAddrP, elemsOf, readCells, lenP, lenAt, resultsP, resultP, oneOr, reduceCtorEq, reduceIte, Nat.reduceEqDiff, Nat.reduceAdd, Nat.zero_add, Nat.reduceMul, Nat.reduceLT, Nat.reduceLeDiff, Int.reduceLT, Int.reduceNeg, Int.reduceLE, appendP, appendAt, letGo, setLoc, locVal, Int.reduceToNat, boxCells, und, TG, SE, SC, List.getElem?_cons_zero, List.getElem?_cons_succ, unP, extP, htu, htr, hky, hev1, htg, hsp, hrl, dynR, callAl, loadR, loadP, storeR, storeK, storeCellsP, laid, lay, setBox, List.take_succ_cons, List.take_zero, List.take_nil, List.drop_succ_cons, List.drop_zero, List.drop_nil, List.filter_nil, List.cons_append, List.nil_append, Nat.le_refl, Int.reduceBEq, Int.reduceBNe, Int.reduceGT, Int.reduceGE, Int.reduceLT, beq_self_eq_true, Bool.not_true, Bool.not_false, opl, oaw, oru, osm, ofl, l1, l2, w1, w2, w3, hpx, hpy, hpz]
        generalize hE : ev (Code.loop _) _ = z
        have hP : PLn s (.int .i64 (2 + (on.length : Int) + (dos.length : Int) + 1)) (2 + on.length + dos.length + 1) [.cells 32 [.str nm, .int .i64 pr, .sl xs, .int .i64 zk, .int .i64 zn, .int .i64 zm, .str znm, .int .i64 zv.1, .int .i64 zv.2.1, .str zv.2.2, .int .i64 zkey.1, .str zkey.2.1, .str zkey.2.2, .sl zs, .sl ys]] z := by
          rw [← hE]
          refine hloop _ _ _ ?_ ?_ ?_ ?_ ?_
          all_goals first | (simp (maxSteps := 5000000) only [SA, SB, SD, R, guardAt, binP, intP, indexAddrP, elemsOf, readCells, lenP, lenAt, resultsP, resultP, oneOr, reduceCtorEq, reduceIte, Nat.reduceEqDiff, Nat.reduceAdd, Nat.zero_add, Nat.reduceMul, Nat.reduceLT, Nat.reduceLeDiff, Int.reduceLT, Int.reduceNeg, Int.reduceLE, appendP, appendAt, letGo, setLoc, locVal, Int.reduceToNat, boxCells, und]; done) | (simp (maxSteps := 5000000) only [SA, SB, SD, R, guardAt, binP, intP, indexAddrP, elemsOf, readCells, lenP, lenAt, resultsP, resultP, oneOr, reduceCtorEq, reduceIte, Nat.reduceEqDiff, Nat.reduceAdd, Nat.zero_add, Nat.reduceMul, Nat.reduceLT, Nat.reduceLeDiff, Int.reduceLT, Int.reduceNeg, Int.reduceLE, appendP, appendAt, letGo, setLoc, locVal, Int.reduceToNat, boxCells, und]; rfl)
        obtain ⟨e', rfl, m1, m3, m5, m6⟩ := hP
        rw [hq] at m6
        simp (maxSteps := 5000000) only [SA, SB, SD, R, guardAt, binP, intP, indexAddrP, elemsOf, readCells, lenP, lenAt, resultsP, resultP, oneOr, reduceCtorEq, reduceIte, Nat.reduceEqDiff, Nat.reduceAdd, Nat.zero_add, Nat.reduceMul, Nat.reduceLT, Nat.reduceLeDiff, Int.reduceLT, Int.reduceNeg, Int.reduceLE, appendP, appendAt, letGo, setLoc, locVal, Int.reduceToNat, boxCells, und, TG, SE, SC, List.getElem?_cons_zero, List.getElem?_cons_succ, unP, extP, htu, htr, hky, hev1, htg, hsp, hrl, dynR, callAl, loadR, loadP, storeR, storeK, storeCellsP, laid, lay, setBox, List.take_succ_cons, List.take_zero, List.take_nil, List.drop_succ_cons, List.drop_zero, List.drop_nil, List.filter_nil, List.cons_append, List.nil_append, Nat.le_refl, Int.reduceBEq, Int.reduceBNe, Int.reduceGT, Int.reduceGE, Int.reduceLT, beq_self_eq_true, Bool.not_true, Bool.not_false, m1, m3, m5, m6, hgt, hwl, hlen, hix, oaw]
        exact ⟨_, rfl⟩
    · have hru : ruT r = [] := by unfold ruT; rw [if_neg h0]
      rw [hru] at oru
      have p : (rlE r != 0) = true := by simpa using h0
      have sq : strP .eql [] [] = some (.bool true) := rfl
      clear osm g1 g2 g3 hru h0 hpl hr
      generalize rlE r = er at *
      obtain ⟨nm, pr, on, ife, dos⟩ := r
      unfold rlV trC at *
      obtain ⟨zk, zn, zm, znm, zv, zkey, zkids⟩ := ife
      unfold trV at *
      simp only [SA, List.cons_append, List.nil_append] at opl oru och ⊢
      have hpz := trVs_pure zkids
      have hpx := tgs_pure on
      have hpy := sps_pure dos
      generalize trVs zkids = zs at *
      generalize on.map tgV = xs at *
      generalize dos.map spV = ys at *
      rw [callL_enter (fn := Tryd.f3) (c := Tryd.f3.body.getD .skip) rfl rfl fat_L30_PrintLines rfl ok_L30_PrintLines (Nat.le_of_ble_eq_true rfl)]
      obtain ⟨tu, htu⟩ := VLs
      obtain ⟨tr, htr⟩ := TRs
      obtain ⟨tk, hky⟩ := KYs
      obtain ⟨te, hev1⟩ := EVs
      obtain ⟨tg, htg⟩ := TG_s
      obtain ⟨tp, hsp⟩ := SPs
      obtain ⟨tl, hrl⟩ := RLs
      obtain ⟨ev, eo, so, co, ⟨hev, hco⟩, R⟩ := RULES CC; rw [← hev]
      rw [← hco] at opl oaw oru och
      simp only [fpart, part', Tryd.f3, Option.getD]
      simp (maxSteps := 5000000) only [SA, SB, SD, R, guardAt, binP, intP, indexAddrP, elemsOf, readCells, lenP, lenAt, resultsP, resultP, oneOr, reduceCtorEq, reduceIte, Nat.reduceEqDiff, Nat.reduceAdd, Nat.zero_add, Nat.reduceMul, Nat.reduceLT, Nat.reduceLeDiff, Int.reduceLT, Int.reduceNeg, Int.reduceLE, appendP, appendAt, letGo, setLoc, locVal, Int.reduceToNat, boxCells, und, TG, SE, SC, List.getElem?_cons_zero, List.getElem?_cons_succ, unP, extP, htu, htr, hky, hev1, htg, hsp, hrl, dynR, callAl, loadR, loadP, storeR, storeK, storeCellsP, laid, lay, setBox, List.take_succ_cons, List.take_zero, List.take_nil, List.drop_succ_cons, List.drop_zero, List.drop_nil, List.filter_nil, List.cons_append, List.nil_append, Nat.le_refl, Int.reduceBEq, Int.reduceBNe, Int.reduceGT, Int.reduceGE, Int.reduceLT, beq_self_eq_true, Bool.not_true, Bool.not_false, opl, oaw, oru, och, p, sq, hpx, hpy, hpz]
      exact ⟨_, rfl⟩
end Go.HH
