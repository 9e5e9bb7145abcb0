/-
  Texts of rules: triggers and steps, in the program.
-/
import Derived.Test.YthjcaihemgllaaaDoorLA
namespace Go.HH
open Go Go.Proofs
set_option maxRecDepth 100000
set_option maxHeartbeats 4000000
set_option linter.unusedSimpArgs false
set_option linter.unusedVariables false
theorem ok_print_event : fnOK CC Tryd.f25 (Tryd.f25.body.getD .skip) = true := by kernel_rfl
theorem fat_print_event : CC.P.funcs[25]? = some Tryd.f25 := by kernel_rfl
theorem ok_print_action : fnOK CC Tryd.f28 (Tryd.f28.body.getD .skip) = true := by kernel_rfl
theorem fat_print_action : CC.P.funcs[28]? = some Tryd.f28 := by kernel_rfl
theorem nmE_in {n : Int} {a b : List UInt8} (h : nmE n a b = 0) : inI n := by
  unfold nmE at h
  split at h
  · omega
  · rename_i hd
    have hd : dvB n = true := by simpa using hd
    unfold dvB at hd
    have hd := of_decide_eq_true hd
    exact ⟨by omega, by omega⟩
theorem quote_len (s : List UInt8) : (quoteL s).length ≤ 4 * s.length + 2 := by
  have := flat_le s
  rw [quoteL_length]
  omega
theorem dot_len {d : Int} {a b : List UInt8} (h : inI d) : (dotT d a b).length ≤ 23 + a.length + b.length := by
  have := itoa_length h
  unfold dotT
  simp only [cat_len, List.length_singleton]
  omega
theorem clk_len (n : Nat) : (clkT n).length = 5 := rfl
theorem day_lenF : ∀ n : _root_.Fin 128, (dayN n.val).length ≤ 100 := by decide +kernel
theorem day_len {n : Nat} (h : n < 128) : (dayN n).length ≤ 100 := day_lenF ⟨n, h⟩
/-- what a valid trigger's check says of its parts -/
theorem tgE_parts {t : Tg} (h : tgE t = 0) : (1 ≤ t.k ∧ t.k ≤ 6) ∧ (t.k = 1 → inI t.key.1) ∧ (t.k = 2 → inI t.ev.1) ∧ (t.k = 3 → 0 ≤ t.n ∧ t.n < 1440 ∧ 1 ≤ t.m ∧ t.m ≤ 127) ∧ (t.k = 6 → inI t.n) := by
  unfold tgE at h
  split at h
  · omega
  split at h
  · omega
  refine ⟨by omega, fun k => ?_, fun k => ?_, fun k => ?_, fun k => ?_⟩
  · rw [if_pos k] at h
    exact nmE_in h
  · rw [if_neg (by omega), if_pos k] at h
    exact nmE_in h
  · rw [if_neg (by omega), if_neg (by omega), if_pos k] at h
    split at h <;> omega
  · rw [if_neg (by omega), if_neg (by omega), if_neg (by omega), if_neg (by omega), if_pos k] at h
    split at h
    · exact ⟨by omega, by omega⟩
    · omega
theorem call_event (t : Tg) (hp : plTg t = true) (h : tgE t = 0) : ∃ bx, callL CC 25 [tgV t] [] = some (.ret (.str (evS t)), bx) := by
  obtain ⟨l1, l2, l3, l4, l5⟩ := plTg_len hp
  obtain ⟨g0, g1, g2, g3, g6⟩ := tgE_parts h
  clear h hp
  unfold evS
  obtain ⟨k, key, ev, nm, n, m⟩ := t
  obtain ⟨d, c, a⟩ := key
  obtain ⟨d', c', a'⟩ := ev
  simp only at l1 l2 l3 l4 l5 g0 g1 g2 g3 g6 ⊢
  unfold tgV
  simp only
  rw [callL_enter (fn := Tryd.f25) (c := Tryd.f25.body.getD .skip) rfl rfl fat_print_event rfl ok_print_event (Nat.le_of_ble_eq_true rfl)]
  obtain ⟨tu, htu⟩ := VLs
  obtain ⟨tr, htr⟩ := TRs
  obtain ⟨tk, hky⟩ := KYs
  obtain ⟨te, hev1⟩ := EVs
  obtain ⟨tg, htg⟩ := TG_s
  obtain ⟨tp, hsp⟩ := SPs
  obtain ⟨tl, hrl⟩ := RLs
  by_cases k1 : k = 1
  · have o := op_dotted d c a (g1 k1) (by omega) (by omega)
    have cA := catA (a := [99, 104, 97, 110, 103, 101, 32]) (b := dotT d c a) (by have := dot_len (a := c) (b := a) (g1 k1); simp only [List.length_cons, List.length_nil]; omega)
    subst k1
    rw [if_pos rfl]
    generalize dotT d c a = s at *
    clear g0 g1 g2 g3 g6
    obtain ⟨ev, eo, so, co, ⟨hev, hco⟩, R⟩ := RULES CC; rw [← hev]
    rw [← hco] at o
    simp only [fpart, part', Tryd.f25, Option.getD]
    simp (maxSteps := 5000000) only [SA, SB, SD, R, guardAt, binP, intP, indexAddrP, elemsOf, readCells, lenP, lenAt, resultsP, resultP, oneOr, reduceCtorEq, reduceIte, Nat.reduceEqDiff, Nat.reduceAdd, Nat.zero_add, Nat.reduceMul, Nat.reduceLT, Nat.reduceLeDiff, Int.reduceLT, Int.reduceNeg, Int.reduceLE, appendP, appendAt, letGo, setLoc, locVal, Int.reduceToNat, boxCells, und, TG, SE, SC, List.getElem?_cons_zero, List.getElem?_cons_succ, unP, htu, htr, hky, hev1, htg, hsp, hrl, loadR, loadP, lay, List.take_succ_cons, List.take_zero, List.drop_succ_cons, List.drop_zero, List.drop_nil, List.filter_nil, List.cons_append, Int.reduceBEq, Int.reduceBNe, Int.reduceGT, Int.reduceLT, Int.reduceGE, Int.reduceEq, Bool.not_true, Bool.not_false, o, cA]
    exact ⟨_, rfl⟩
  rw [if_neg k1]
  by_cases k2 : k = 2
  · have o := op_dotted d' c' a' (g2 k2) (by omega) (by omega)
    have cA := catA (a := [101, 118, 101, 110, 116, 32]) (b := dotT d' c' a') (by have := dot_len (a := c') (b := a') (g2 k2); simp only [List.length_cons, List.length_nil]; omega)
    subst k2
    rw [if_pos rfl]
    generalize dotT d' c' a' = s at *
    clear g0 g1 g2 g3 g6
    obtain ⟨ev, eo, so, co, ⟨hev, hco⟩, R⟩ := RULES CC; rw [← hev]
    rw [← hco] at o
    simp only [fpart, part', Tryd.f25, Option.getD]
    simp (maxSteps := 5000000) only [SA, SB, SD, R, guardAt, binP, intP, indexAddrP, elemsOf, readCells, lenP, lenAt, resultsP, resultP, oneOr, reduceCtorEq, reduceIte, Nat.reduceEqDiff, Nat.reduceAdd, Nat.zero_add, Nat.reduceMul, Nat.reduceLT, Nat.reduceLeDiff, Int.reduceLT, Int.reduceNeg, Int.reduceLE, appendP, appendAt, letGo, setLoc, locVal, Int.reduceToNat, boxCells, und, TG, SE, SC, List.getElem?_cons_zero, List.getElem?_cons_succ, unP, htu, htr, hky, hev1, htg, hsp, hrl, loadR, loadP, lay, List.take_succ_cons, List.take_zero, List.drop_succ_cons, List.drop_zero, List.drop_nil, List.filter_nil, List.cons_append, Int.reduceBEq, Int.reduceBNe, Int.reduceGT, Int.reduceLT, Int.reduceGE, Int.reduceEq, Bool.not_true, Bool.not_false, o, cA]
    exact ⟨_, rfl⟩
  rw [if_neg k2]
  by_cases k3 : k = 3
  · obtain ⟨q1, q2, q3, q4⟩ := g3 k3
    have o := op_clock n ⟨q1, q2⟩
    have o2 := op_days m ⟨q3, q4⟩
    have cA := catA (a := [116, 105, 109, 101, 32]) (b := clkT n.toNat) (by rw [clk_len]; simp only [List.length_cons, List.length_nil]; omega)
    have cB := catA (a := cat [116, 105, 109, 101, 32] (clkT n.toNat)) (b := [32]) (by rw [cat_len, clk_len]; simp only [List.length_cons, List.length_nil]; omega)
    have cC := catA (a := cat (cat [116, 105, 109, 101, 32] (clkT n.toNat)) [32]) (b := dayN m.toNat) (by have := day_len (n := m.toNat) (by omega); rw [cat_len, cat_len, clk_len]; simp only [List.length_cons, List.length_nil]; omega)
    subst k3
    rw [if_pos rfl]
    generalize clkT n.toNat = s at *
    generalize dayN m.toNat = w at *
    clear g0 g1 g2 g3 g6
    by_cases km : m = 127
    · rw [if_pos km]
      subst km
      obtain ⟨ev, eo, so, co, ⟨hev, hco⟩, R⟩ := RULES CC; rw [← hev]
      rw [← hco] at o o2
      simp only [fpart, part', Tryd.f25, Option.getD]
      simp (maxSteps := 5000000) only [SA, SB, SD, R, guardAt, binP, intP, indexAddrP, elemsOf, readCells, lenP, lenAt, resultsP, resultP, oneOr, reduceCtorEq, reduceIte, Nat.reduceEqDiff, Nat.reduceAdd, Nat.zero_add, Nat.reduceMul, Nat.reduceLT, Nat.reduceLeDiff, Int.reduceLT, Int.reduceNeg, Int.reduceLE, appendP, appendAt, letGo, setLoc, locVal, Int.reduceToNat, boxCells, und, TG, SE, SC, List.getElem?_cons_zero, List.getElem?_cons_succ, unP, htu, htr, hky, hev1, htg, hsp, hrl, loadR, loadP, lay, List.take_succ_cons, List.take_zero, List.drop_succ_cons, List.drop_zero, List.drop_nil, List.filter_nil, List.cons_append, Int.reduceBEq, Int.reduceBNe, Int.reduceGT, Int.reduceLT, Int.reduceGE, Int.reduceEq, Bool.not_true, Bool.not_false, o, cA]
      exact ⟨_, rfl⟩
    · rw [if_neg km]
      have kmp : (m == 127) = false := by simpa using km
      obtain ⟨ev, eo, so, co, ⟨hev, hco⟩, R⟩ := RULES CC; rw [← hev]
      rw [← hco] at o o2
      simp only [fpart, part', Tryd.f25, Option.getD]
      simp (maxSteps := 5000000) only [SA, SB, SD, R, guardAt, binP, intP, indexAddrP, elemsOf, readCells, lenP, lenAt, resultsP, resultP, oneOr, reduceCtorEq, reduceIte, Nat.reduceEqDiff, Nat.reduceAdd, Nat.zero_add, Nat.reduceMul, Nat.reduceLT, Nat.reduceLeDiff, Int.reduceLT, Int.reduceNeg, Int.reduceLE, appendP, appendAt, letGo, setLoc, locVal, Int.reduceToNat, boxCells, und, TG, SE, SC, List.getElem?_cons_zero, List.getElem?_cons_succ, unP, htu, htr, hky, hev1, htg, hsp, hrl, loadR, loadP, lay, List.take_succ_cons, List.take_zero, List.drop_succ_cons, List.drop_zero, List.drop_nil, List.filter_nil, List.cons_append, Int.reduceBEq, Int.reduceBNe, Int.reduceGT, Int.reduceLT, Int.reduceGE, Int.reduceEq, Bool.not_true, Bool.not_false, o, o2, cA, cB, cC, kmp]
      exact ⟨_, rfl⟩
  rw [if_neg k3]
  by_cases k4 : k = 4
  · have cA := catA (a := [109, 111, 100, 101, 32]) (b := nm) (by simp only [List.length_cons, List.length_nil]; omega)
    have he : strP .eql nm [] = some (.bool (nm == [])) := rfl
    subst k4
    rw [if_pos rfl]
    clear g0 g1 g2 g3 g6
    by_cases kn : nm = []
    · rw [if_pos kn]
      have hb : (nm == []) = true := by rw [kn]; rfl
      rw [hb] at he
      obtain ⟨ev, eo, so, co, ⟨hev, hco⟩, R⟩ := RULES CC; rw [← hev]
      simp only [fpart, part', Tryd.f25, Option.getD]
      simp (maxSteps := 5000000) only [SA, SB, SD, R, guardAt, binP, intP, indexAddrP, elemsOf, readCells, lenP, lenAt, resultsP, resultP, oneOr, reduceCtorEq, reduceIte, Nat.reduceEqDiff, Nat.reduceAdd, Nat.zero_add, Nat.reduceMul, Nat.reduceLT, Nat.reduceLeDiff, Int.reduceLT, Int.reduceNeg, Int.reduceLE, appendP, appendAt, letGo, setLoc, locVal, Int.reduceToNat, boxCells, und, TG, SE, SC, List.getElem?_cons_zero, List.getElem?_cons_succ, unP, htu, htr, hky, hev1, htg, hsp, hrl, loadR, loadP, lay, List.take_succ_cons, List.take_zero, List.drop_succ_cons, List.drop_zero, List.drop_nil, List.filter_nil, List.cons_append, Int.reduceBEq, Int.reduceBNe, Int.reduceGT, Int.reduceLT, Int.reduceGE, Int.reduceEq, Bool.not_true, Bool.not_false, he]
      exact ⟨_, rfl⟩
    · rw [if_neg kn]
      have hb : (nm == []) = false := by simpa using kn
      rw [hb] at he
      obtain ⟨ev, eo, so, co, ⟨hev, hco⟩, R⟩ := RULES CC; rw [← hev]
      simp only [fpart, part', Tryd.f25, Option.getD]
      simp (maxSteps := 5000000) only [SA, SB, SD, R, guardAt, binP, intP, indexAddrP, elemsOf, readCells, lenP, lenAt, resultsP, resultP, oneOr, reduceCtorEq, reduceIte, Nat.reduceEqDiff, Nat.reduceAdd, Nat.zero_add, Nat.reduceMul, Nat.reduceLT, Nat.reduceLeDiff, Int.reduceLT, Int.reduceNeg, Int.reduceLE, appendP, appendAt, letGo, setLoc, locVal, Int.reduceToNat, boxCells, und, TG, SE, SC, List.getElem?_cons_zero, List.getElem?_cons_succ, unP, htu, htr, hky, hev1, htg, hsp, hrl, loadR, loadP, lay, List.take_succ_cons, List.take_zero, List.drop_succ_cons, List.drop_zero, List.drop_nil, List.filter_nil, List.cons_append, Int.reduceBEq, Int.reduceBNe, Int.reduceGT, Int.reduceLT, Int.reduceGE, Int.reduceEq, Bool.not_true, Bool.not_false, he, cA]
      exact ⟨_, rfl⟩
  rw [if_neg k4]
  by_cases k5 : k = 5
  · subst k5
    rw [if_pos rfl]
    clear g0 g1 g2 g3 g6
    obtain ⟨ev, eo, so, co, ⟨hev, hco⟩, R⟩ := RULES CC; rw [← hev]
    simp only [fpart, part', Tryd.f25, Option.getD]
    simp (maxSteps := 5000000) only [SA, SB, SD, R, guardAt, binP, intP, indexAddrP, elemsOf, readCells, lenP, lenAt, resultsP, resultP, oneOr, reduceCtorEq, reduceIte, Nat.reduceEqDiff, Nat.reduceAdd, Nat.zero_add, Nat.reduceMul, Nat.reduceLT, Nat.reduceLeDiff, Int.reduceLT, Int.reduceNeg, Int.reduceLE, appendP, appendAt, letGo, setLoc, locVal, Int.reduceToNat, boxCells, und, TG, SE, SC, List.getElem?_cons_zero, List.getElem?_cons_succ, unP, htu, htr, hky, hev1, htg, hsp, hrl, loadR, loadP, lay, List.take_succ_cons, List.take_zero, List.drop_succ_cons, List.drop_zero, List.drop_nil, List.filter_nil, List.cons_append, Int.reduceBEq, Int.reduceBNe, Int.reduceGT, Int.reduceLT, Int.reduceGE, Int.reduceEq, Bool.not_true, Bool.not_false, hky]
    exact ⟨_, rfl⟩
  rw [if_neg k5]
  have k6 : k = 6 := by omega
  have o := op_num_Digits n (g6 k6)
  have cA := catA (a := [104, 111, 108, 100, 32]) (b := Lib.itoa n) (by have := itoa_length (g6 k6); simp only [List.length_cons, List.length_nil]; omega)
  subst k6
  generalize Lib.itoa n = s at *
  clear g0 g1 g2 g3 g6
  obtain ⟨ev, eo, so, co, ⟨hev, hco⟩, R⟩ := RULES CC; rw [← hev]
  rw [← hco] at o
  simp only [fpart, part', Tryd.f25, Option.getD]
  simp (maxSteps := 5000000) only [SA, SB, SD, R, guardAt, binP, intP, indexAddrP, elemsOf, readCells, lenP, lenAt, resultsP, resultP, oneOr, reduceCtorEq, reduceIte, Nat.reduceEqDiff, Nat.reduceAdd, Nat.zero_add, Nat.reduceMul, Nat.reduceLT, Nat.reduceLeDiff, Int.reduceLT, Int.reduceNeg, Int.reduceLE, appendP, appendAt, letGo, setLoc, locVal, Int.reduceToNat, boxCells, und, TG, SE, SC, List.getElem?_cons_zero, List.getElem?_cons_succ, unP, htu, htr, hky, hev1, htg, hsp, hrl, loadR, loadP, lay, List.take_succ_cons, List.take_zero, List.drop_succ_cons, List.drop_zero, List.drop_nil, List.filter_nil, List.cons_append, Int.reduceBEq, Int.reduceBNe, Int.reduceGT, Int.reduceLT, Int.reduceGE, Int.reduceEq, Bool.not_true, Bool.not_false, o, cA]
  exact ⟨_, rfl⟩
theorem op_event (t : Tg) (hp : plTg t = true) (h : tgE t = 0) (bx) : callOp CC (callL CC) 25 [tgV t] bx = some (.ret (.str (evS t)), bx) := by
  obtain ⟨b, hc⟩ := call_event t hp h
  exact callOp_of rfl rfl hc rfl
theorem spE_parts {s : Sp} (h : spE s = 0) : (1 ≤ s.k ∧ s.k ≤ 5) ∧ (s.k = 1 → inI s.key.1 ∧ ckT s.ex = 0) ∧ (s.k = 2 → inI s.key.1 ∧ (nnB s.ex = false → ckT s.ex = 0)) := by
  unfold spE at h
  split at h
  · rename_i k1
    refine ⟨by omega, fun _ => ?_, fun k => by omega⟩
    split at h
    · omega
    split at h
    · rename_i hh; exact absurd h hh
    · rename_i hn
      exact ⟨nmE_in (a := s.key.2.1) (b := s.key.2.2) (by omega), h⟩
  split at h
  · rename_i k2
    refine ⟨by omega, fun k => by omega, fun _ => ?_⟩
    split at h
    · omega
    split at h
    · rename_i hh; exact absurd h hh
    · rename_i hn
      refine ⟨nmE_in (a := s.key.2.1) (b := s.nm) (by omega), fun hx => ?_⟩
      rw [hx, if_neg (by simp)] at h
      exact h
  split at h
  · refine ⟨by omega, fun k => by omega, fun k => by omega⟩
  · omega
theorem TX_len {t : Tr} (hm : 0 ≤ mdT t 220 30) (ht : okTr t) (h : ckT t = 0) : TXc t ∧ (TX t).length ≤ 140000 ∧ ∀ least, (kdS (an t) least).length ≤ 140002 := by
  have hs := sh_md t 220 30 hm
  have hn := nd_220 hm
  have h1 := (tx_ok t (ck_v h) hs ht (by omega)).1
  have h2 : (TX t).length ≤ 140000 := by
    have := an_len t (ck_v h) hs ht
    omega
  refine ⟨h1, h2, fun least => ?_⟩
  have := kdS_len (an t) least
  have e : TX t = (an t).s := rfl
  rw [e] at h2
  omega
theorem call_action (s : Sp) (hp : plSp s = true) (ho : okTr s.ex) (h : spE s = 0) : ∃ bx, callL CC 28 [spV s] [] = some (.ret (.str (acS s)), bx) := by
  obtain ⟨l1, l2, l3, l4⟩ := plSp_len hp
  obtain ⟨g0, g1, g2⟩ := spE_parts h
  have hk : ckT s.ex = 0 → (∀ bx, callOp CC (callL CC) 27 [trV s.ex, .int .i64 0] bx = some (.ret (.str (kdS (an s.ex) 0)), bx)) ∧ (kdS (an s.ex) 0).length ≤ 140002 := fun hc => by
    obtain ⟨t1, t2, t3⟩ := TX_len l4 ho hc
    exact ⟨fun bx => op_kid s.ex t1 (by omega) 0 bx, t3 0⟩
  have onn := op_print_none s.ex
  clear h hp
  unfold acS
  obtain ⟨k, key, nm, ex⟩ := s
  obtain ⟨d, c, a⟩ := key
  simp only at l1 l2 l3 g0 g1 g2 hk onn ⊢
  generalize nnB ex = nn at *
  generalize ckT ex = ck at *
  generalize kdS (an ex) 0 = x at *
  clear l4 ho
  unfold spV trC
  obtain ⟨zk, zn, zm, znm, zv, zkey, zkids⟩ := ex
  unfold trV at onn hk ⊢
  have hpz := trVs_pure zkids
  generalize trVs zkids = zs at *
  simp only [SA, List.cons_append, List.nil_append] at onn hk ⊢
  rw [callL_enter (fn := Tryd.f28) (c := Tryd.f28.body.getD .skip) rfl rfl fat_print_action rfl ok_print_action (Nat.le_of_ble_eq_true rfl)]
  obtain ⟨tu, htu⟩ := VLs
  obtain ⟨tr, htr⟩ := TRs
  obtain ⟨tk, hky⟩ := KYs
  obtain ⟨te, hev1⟩ := EVs
  obtain ⟨tg, htg⟩ := TG_s
  obtain ⟨tp, hsp⟩ := SPs
  obtain ⟨tl, hrl⟩ := RLs
  by_cases k1 : k = 1
  · obtain ⟨hi, hc⟩ := g1 k1
    obtain ⟨o1, lx⟩ := hk hc
    have o := op_dotted d c a hi (by omega) (by omega)
    have hl := dot_len (a := c) (b := a) hi
    generalize dotT d c a = w at *
    have cA := catA (a := [115, 101, 116, 32]) (b := w) (by simp only [List.length_cons, List.length_nil]; omega)
    have cB := catA (a := cat [115, 101, 116, 32] w) (b := [32, 61, 32]) (by rw [cat_len]; simp only [List.length_cons, List.length_nil]; omega)
    have cC := catA (a := cat (cat [115, 101, 116, 32] w) [32, 61, 32]) (b := x) (by rw [cat_len, cat_len]; simp only [List.length_cons, List.length_nil]; omega)
    subst k1
    rw [if_pos rfl]
    clear g0 g1 g2 hk
    obtain ⟨ev, eo, so, co, ⟨hev, hco⟩, R⟩ := RULES CC; rw [← hev]
    rw [← hco] at o o1
    simp only [fpart, part', Tryd.f28, Option.getD]
    simp (maxSteps := 5000000) only [SA, SB, SD, R, guardAt, binP, intP, indexAddrP, elemsOf, readCells, lenP, lenAt, resultsP, resultP, oneOr, reduceCtorEq, reduceIte, Nat.reduceEqDiff, Nat.reduceAdd, Nat.zero_add, Nat.reduceMul, Nat.reduceLT, Nat.reduceLeDiff, Int.reduceLT, Int.reduceNeg, Int.reduceLE, appendP, appendAt, letGo, setLoc, locVal, Int.reduceToNat, boxCells, und, TG, SE, SC, List.getElem?_cons_zero, List.getElem?_cons_succ, unP, htu, htr, hky, hev1, htg, hsp, hrl, loadR, loadP, lay, List.take_succ_cons, List.take_zero, List.drop_succ_cons, List.drop_zero, List.drop_nil, List.filter_nil, List.cons_append, Int.reduceBEq, Int.reduceBNe, Int.reduceGT, Int.reduceLT, Int.reduceGE, Int.reduceEq, Bool.not_true, Bool.not_false, o, o1, cA, cB, cC, hpz]
    exact ⟨_, rfl⟩
  rw [if_neg k1]
  by_cases k2 : k = 2
  · obtain ⟨hi, hc⟩ := g2 k2
    have o := op_dotted d c nm hi (by omega) (by omega)
    have hl := dot_len (a := c) (b := nm) hi
    generalize dotT d c nm = w at *
    have cA := catA (a := [99, 97, 108, 108, 32]) (b := w) (by simp only [List.length_cons, List.length_nil]; omega)
    subst k2
    rw [if_pos rfl]
    cases nn with
    | true =>
      rw [if_pos rfl]
      clear g0 g1 g2 hk hc
      obtain ⟨ev, eo, so, co, ⟨hev, hco⟩, R⟩ := RULES CC; rw [← hev]
      rw [← hco] at o onn
      simp only [fpart, part', Tryd.f28, Option.getD]
      simp (maxSteps := 5000000) only [SA, SB, SD, R, guardAt, binP, intP, indexAddrP, elemsOf, readCells, lenP, lenAt, resultsP, resultP, oneOr, reduceCtorEq, reduceIte, Nat.reduceEqDiff, Nat.reduceAdd, Nat.zero_add, Nat.reduceMul, Nat.reduceLT, Nat.reduceLeDiff, Int.reduceLT, Int.reduceNeg, Int.reduceLE, appendP, appendAt, letGo, setLoc, locVal, Int.reduceToNat, boxCells, und, TG, SE, SC, List.getElem?_cons_zero, List.getElem?_cons_succ, unP, htu, htr, hky, hev1, htg, hsp, hrl, loadR, loadP, lay, List.take_succ_cons, List.take_zero, List.drop_succ_cons, List.drop_zero, List.drop_nil, List.filter_nil, List.cons_append, Int.reduceBEq, Int.reduceBNe, Int.reduceGT, Int.reduceLT, Int.reduceGE, Int.reduceEq, Bool.not_true, Bool.not_false, o, onn, cA, hpz]
      exact ⟨_, rfl⟩
    | false =>
      rw [if_neg (by simp)]
      obtain ⟨o1, lx⟩ := hk (hc rfl)
      have cB := catA (a := cat [99, 97, 108, 108, 32] w) (b := [40]) (by rw [cat_len]; simp only [List.length_cons, List.length_nil]; omega)
      have cC := catA (a := cat (cat [99, 97, 108, 108, 32] w) [40]) (b := x) (by rw [cat_len, cat_len]; simp only [List.length_cons, List.length_nil]; omega)
      have cD := catA (a := cat (cat (cat [99, 97, 108, 108, 32] w) [40]) x) (b := [41]) (by rw [cat_len, cat_len, cat_len]; simp only [List.length_cons, List.length_nil]; omega)
      clear g0 g1 g2 hk hc
      obtain ⟨ev, eo, so, co, ⟨hev, hco⟩, R⟩ := RULES CC; rw [← hev]
      rw [← hco] at o onn o1
      simp only [fpart, part', Tryd.f28, Option.getD]
      simp (maxSteps := 5000000) only [SA, SB, SD, R, guardAt, binP, intP, indexAddrP, elemsOf, readCells, lenP, lenAt, resultsP, resultP, oneOr, reduceCtorEq, reduceIte, Nat.reduceEqDiff, Nat.reduceAdd, Nat.zero_add, Nat.reduceMul, Nat.reduceLT, Nat.reduceLeDiff, Int.reduceLT, Int.reduceNeg, Int.reduceLE, appendP, appendAt, letGo, setLoc, locVal, Int.reduceToNat, boxCells, und, TG, SE, SC, List.getElem?_cons_zero, List.getElem?_cons_succ, unP, htu, htr, hky, hev1, htg, hsp, hrl, loadR, loadP, lay, List.take_succ_cons, List.take_zero, List.drop_succ_cons, List.drop_zero, List.drop_nil, List.filter_nil, List.cons_append, Int.reduceBEq, Int.reduceBNe, Int.reduceGT, Int.reduceLT, Int.reduceGE, Int.reduceEq, Bool.not_true, Bool.not_false, o, onn, o1, cA, cB, cC, cD, hpz]
      exact ⟨_, rfl⟩
  rw [if_neg k2]
  clear hk onn
  by_cases k3 : k = 3
  · have cA := catA (a := [115, 99, 101, 110, 101, 32]) (b := nm) (by simp only [List.length_cons, List.length_nil]; omega)
    subst k3
    rw [if_pos rfl]
    clear g0 g1 g2
    obtain ⟨ev, eo, so, co, ⟨hev, hco⟩, R⟩ := RULES CC; rw [← hev]
    simp only [fpart, part', Tryd.f28, Option.getD]
    simp (maxSteps := 5000000) only [SA, SB, SD, R, guardAt, binP, intP, indexAddrP, elemsOf, readCells, lenP, lenAt, resultsP, resultP, oneOr, reduceCtorEq, reduceIte, Nat.reduceEqDiff, Nat.reduceAdd, Nat.zero_add, Nat.reduceMul, Nat.reduceLT, Nat.reduceLeDiff, Int.reduceLT, Int.reduceNeg, Int.reduceLE, appendP, appendAt, letGo, setLoc, locVal, Int.reduceToNat, boxCells, und, TG, SE, SC, List.getElem?_cons_zero, List.getElem?_cons_succ, unP, htu, htr, hky, hev1, htg, hsp, hrl, loadR, loadP, lay, List.take_succ_cons, List.take_zero, List.drop_succ_cons, List.drop_zero, List.drop_nil, List.filter_nil, List.cons_append, Int.reduceBEq, Int.reduceBNe, Int.reduceGT, Int.reduceLT, Int.reduceGE, Int.reduceEq, Bool.not_true, Bool.not_false, cA]
    exact ⟨_, rfl⟩
  rw [if_neg k3]
  by_cases k4 : k = 4
  · have cA := catA (a := [109, 111, 100, 101, 32]) (b := nm) (by simp only [List.length_cons, List.length_nil]; omega)
    subst k4
    rw [if_pos rfl]
    clear g0 g1 g2
    obtain ⟨ev, eo, so, co, ⟨hev, hco⟩, R⟩ := RULES CC; rw [← hev]
    simp only [fpart, part', Tryd.f28, Option.getD]
    simp (maxSteps := 5000000) only [SA, SB, SD, R, guardAt, binP, intP, indexAddrP, elemsOf, readCells, lenP, lenAt, resultsP, resultP, oneOr, reduceCtorEq, reduceIte, Nat.reduceEqDiff, Nat.reduceAdd, Nat.zero_add, Nat.reduceMul, Nat.reduceLT, Nat.reduceLeDiff, Int.reduceLT, Int.reduceNeg, Int.reduceLE, appendP, appendAt, letGo, setLoc, locVal, Int.reduceToNat, boxCells, und, TG, SE, SC, List.getElem?_cons_zero, List.getElem?_cons_succ, unP, htu, htr, hky, hev1, htg, hsp, hrl, loadR, loadP, lay, List.take_succ_cons, List.take_zero, List.drop_succ_cons, List.drop_zero, List.drop_nil, List.filter_nil, List.cons_append, Int.reduceBEq, Int.reduceBNe, Int.reduceGT, Int.reduceLT, Int.reduceGE, Int.reduceEq, Bool.not_true, Bool.not_false, cA]
    exact ⟨_, rfl⟩
  rw [if_neg k4]
  have k5 : k = 5 := by omega
  have o := op_names_Quote nm (by omega)
  have cA := catA (a := [110, 111, 116, 105, 102, 121, 32]) (b := quoteL nm) (by have := quote_len nm; simp only [List.length_cons, List.length_nil]; omega)
  subst k5
  generalize quoteL nm = w at *
  clear g0 g1 g2
  obtain ⟨ev, eo, so, co, ⟨hev, hco⟩, R⟩ := RULES CC; rw [← hev]
  rw [← hco] at o
  simp only [fpart, part', Tryd.f28, Option.getD]
  simp (maxSteps := 5000000) only [SA, SB, SD, R, guardAt, binP, intP, indexAddrP, elemsOf, readCells, lenP, lenAt, resultsP, resultP, oneOr, reduceCtorEq, reduceIte, Nat.reduceEqDiff, Nat.reduceAdd, Nat.zero_add, Nat.reduceMul, Nat.reduceLT, Nat.reduceLeDiff, Int.reduceLT, Int.reduceNeg, Int.reduceLE, appendP, appendAt, letGo, setLoc, locVal, Int.reduceToNat, boxCells, und, TG, SE, SC, List.getElem?_cons_zero, List.getElem?_cons_succ, unP, htu, htr, hky, hev1, htg, hsp, hrl, loadR, loadP, lay, List.take_succ_cons, List.take_zero, List.drop_succ_cons, List.drop_zero, List.drop_nil, List.filter_nil, List.cons_append, Int.reduceBEq, Int.reduceBNe, Int.reduceGT, Int.reduceLT, Int.reduceGE, Int.reduceEq, Bool.not_true, Bool.not_false, o, cA]
  exact ⟨_, rfl⟩
theorem op_action (s : Sp) (hp : plSp s = true) (ho : okTr s.ex) (h : spE s = 0) (bx) : callOp CC (callL CC) 28 [spV s] bx = some (.ret (.str (acS s)), bx) := by
  obtain ⟨b, hc⟩ := call_action s hp ho h
  exact callOp_of rfl (by simp only [pureL_cons, spV_pure, pureL_nil, Bool.and_self]) hc rfl
/-- how long the lines are -/
theorem hd_len {r : Rl} (h : r.nm.length ≤ 100) (h2 : inI r.pr) : (hdS r).length ≤ 200 := by
  have := itoa_length h2
  unfold hdS
  simp only [cat_len, List.length_cons, List.length_nil]
  omega
theorem ev_len {t : Tg} (hp : plTg t = true) (h : tgE t = 0) : (evS t).length ≤ 1000 := by
  obtain ⟨l1, l2, l3, l4, l5⟩ := plTg_len hp
  obtain ⟨g0, g1, g2, g3, g6⟩ := tgE_parts h
  unfold evS
  split
  · rename_i k
    have := dot_len (a := t.key.2.1) (b := t.key.2.2) (g1 k)
    simp only [cat_len, List.length_cons, List.length_nil]
    omega
  split
  · rename_i k
    have := dot_len (a := t.ev.2.1) (b := t.ev.2.2) (g2 k)
    simp only [cat_len, List.length_cons, List.length_nil]
    omega
  split
  · rename_i k
    have := g3 k
    have := day_len (n := t.m.toNat) (by omega)
    split
    · simp only [cat_len, clk_len, List.length_cons, List.length_nil]
      omega
    · simp only [cat_len, clk_len, List.length_cons, List.length_nil]
      omega
  split
  · split
    · simp only [List.length_cons, List.length_nil]
      omega
    · simp only [cat_len, List.length_cons, List.length_nil]
      omega
  split
  · simp only [List.length_cons, List.length_nil]
    omega
  · have := itoa_length (g6 (by omega))
    simp only [cat_len, List.length_cons, List.length_nil]
    omega
theorem ac_len {s : Sp} (hp : plSp s = true) (ho : okTr s.ex) (h : spE s = 0) : (acS s).length ≤ 141000 := by
  obtain ⟨l1, l2, l3, l4⟩ := plSp_len hp
  obtain ⟨g0, g1, g2⟩ := spE_parts h
  unfold acS
  split
  · rename_i k
    have := dot_len (a := s.key.2.1) (b := s.key.2.2) (g1 k).1
    have := (TX_len l4 ho (g1 k).2).2.2 0
    simp only [cat_len, List.length_cons, List.length_nil]
    omega
  split
  · rename_i k
    have := dot_len (a := s.key.2.1) (b := s.nm) (g2 k).1
    split
    · simp only [cat_len, List.length_cons, List.length_nil]
      omega
    · rename_i hx
      have := (TX_len l4 ho ((g2 k).2 (by simpa using hx))).2.2 0
      simp only [cat_len, List.length_cons, List.length_nil]
      omega
  split
  · simp only [cat_len, List.length_cons, List.length_nil]
    omega
  split
  · simp only [cat_len, List.length_cons, List.length_nil]
    omega
  · have := quote_len s.nm
    simp only [cat_len, List.length_cons, List.length_nil]
    omega
end Go.HH
