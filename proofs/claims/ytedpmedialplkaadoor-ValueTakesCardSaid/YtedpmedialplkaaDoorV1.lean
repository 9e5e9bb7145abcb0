/-
  Values: their order, in the program and in the specification; THE LAW of the order.
-/
import Derived.Test.YtedpmedialplkaaDoorV0
import Derived.Test.YtedpmedialplkaaDoorST
import Derived.Test.YtedpmedialplkaaDoorShape
namespace Go.HH
open Go Go.Proofs
set_option maxRecDepth 100000
set_option linter.unusedSimpArgs false
set_option linter.unusedVariables false
theorem ok_value_Less : fnOK CC Tryd.f23 (Tryd.f23.body.getD .skip) = true := by kernel_rfl
theorem fat_value_Less : CC.P.funcs[23]? = some Tryd.f23 := by kernel_rfl
theorem ok_R20_Less : fnOK CC Tryd.f24 (Tryd.f24.body.getD .skip) = true := by kernel_rfl
theorem fat_R20_Less : CC.P.funcs[24]? = some Tryd.f24 := by kernel_rfl
theorem ok_L20_ValueOrder : fnOK CC Tryd.f9 (Tryd.f9.body.getD .skip) = true := by kernel_rfl
theorem fat_L20_ValueOrder : CC.P.funcs[9]? = some Tryd.f9 := by kernel_rfl
/-- a value: kind, number, text -/
abbrev Vl := Int × Int × List UInt8
def vlV (v : Vl) : PV := .agg [.int .i64 v.1, .int .i64 v.2.1, .str v.2.2]
def okVl (v : Vl) : Prop := inI v.1 ∧ inI v.2.1 ∧ v.2.2.length ≤ maxLen
theorem hasV_val {p : PV} (h : HasV Tryd.prog 26 p) : ∃ v : Vl, p = vlV v ∧ okVl v := by
  have ht : Tryd.prog.underlying 26 = some (.struct ((match Tryd.prog.underlying 26 with | some (.struct f) => f | _ => #[]))) := by kernel_rfl
  have hl : ((match Tryd.prog.underlying 26 with | some (.struct f) => f | _ => #[]) : Array Field).toList.map (fun f => (f.type, f.offset)) = [(3, 0), (3, 1), (9, 2)] := by kernel_rfl
  have c0 : Tryd.prog.cellsOf 26 = 3 := by kernel_rfl
  have c1 : Tryd.prog.cellsOf 3 = 1 := by kernel_rfl
  have c2 : Tryd.prog.cellsOf 9 = 1 := by kernel_rfl
  obtain ⟨n, cs, rfl, hlen, hf⟩ := hasV_struct ht hl h
  rw [c0] at hlen
  match cs, hlen with
  | [a, b, c], _ =>
    have f0 := hf (3, 0) (by simp)
    have f1 := hf (3, 1) (by simp)
    have f2 := hf (9, 2) (by simp)
    simp only [c1, c2] at f0 f1 f2
    obtain ⟨k, e0, h0⟩ := hasT_i64 (P := Tryd.prog) Tryd.underlying3 f0
    obtain ⟨m, e1, h1⟩ := hasT_i64 (P := Tryd.prog) Tryd.underlying3 f1
    obtain ⟨s, e2, h2⟩ := hasT_str (P := Tryd.prog) Tryd.underlying9 f2
    injection e0 with e0
    injection e1 with e1
    injection e2 with e2
    subst e0 e1 e2
    exact ⟨(k, m, s), rfl, h0, h1, h2⟩
theorem VLs : ∃ f, CC.P.underlying 26 = some (.struct f) := ⟨(match Tryd.prog.underlying 26 with | some (.struct f) => f | _ => #[]), by kernel_rfl⟩
def and2 (x : Bool) (y : Option Bool) : Option Bool := match some x with
  | some true => y
  | o => o
def eqVl (v w : Vl) : Bool := (v.1 == w.1) && (v.2.1 == w.2.1) && (v.2.2 == w.2.2)
theorem eqVP (a a' b b' : Int) (c c' : List UInt8) : eqP CC 100 26 (.agg [.int .i64 a, .int .i64 b, .str c]) (.agg [.int .i64 a', .int .i64 b', .str c']) = some ((a == a') && (b == b') && (c == c')) := by
  have h : eqP CC 100 26 (.agg [.int .i64 a, .int .i64 b, .str c]) (.agg [.int .i64 a', .int .i64 b', .str c']) = and2 (a == a') (and2 (b == b') (and2 (c == c') (some true))) := by kernel_rfl
  rw [h]
  cases a == a' <;> cases b == b' <;> cases c == c' <;> rfl
theorem eqgV : CC.P.eqGuardType CC.P.depth 26 = false := by kernel_rfl
def lessV (v w : Vl) : Bool := if v.1 ≠ w.1 then decide (v.1 < w.1) else if v.2.1 ≠ w.2.1 then decide (v.2.1 < w.2.1) else Op.bytesLess v.2.2 w.2.2
theorem strP_lss (a b : List UInt8) : strP .lss a b = some (.bool (Op.bytesLess a b)) := rfl
theorem call_value_Less (v w : Vl) : ∃ bx, callL CC 23 [vlV v, vlV w] [] = some (.ret (.bool (lessV v w)), bx) := by
  rw [callL_enter (fn := Tryd.f23) (c := Tryd.f23.body.getD .skip) rfl rfl fat_value_Less rfl ok_value_Less (Nat.le_of_ble_eq_true rfl)]
  obtain ⟨a, b, c⟩ := v
  obtain ⟨a', b', c'⟩ := w
  obtain ⟨tu, htu⟩ := VLs
  have hbl := strP_lss c c'
  unfold lessV vlV
  simp only
  by_cases c1 : a = a'
  · have h1 : (a != a') = false := by simp [c1]
    have h1' : True := trivial
    rw [if_neg (fun h => h c1)]
    by_cases c2 : b = b'
    · have h2 : (b != b') = false := by simp [c2]
      have h2' : True := trivial
      rw [if_neg (fun h => h c2)]
      obtain ⟨ev, eo, so, co, ⟨hev, hco⟩, R⟩ := RULES CC; rw [← hev]
      simp only [fpart, part', Tryd.f23, Option.getD]
      simp (maxSteps := 5000000) only [SA, SB, SD, R, guardAt, binP, intP, indexAddrP, elemsOf, readCells, lenP, lenAt, resultsP, resultP, oneOr, reduceCtorEq, reduceIte, Nat.reduceEqDiff, Nat.reduceAdd, Nat.zero_add, Nat.reduceMul, Nat.reduceLT, Nat.reduceLeDiff, Int.reduceLT, Int.reduceNeg, Int.reduceLE, appendP, appendAt, letGo, setLoc, locVal, Int.reduceToNat, boxCells, und, TG, SE, SC, htu, hbl, h1, h1', h2, h2', loadR, loadP, lay, List.take_succ_cons, List.take_zero, List.drop_nil, List.filter_nil, List.cons_append]
      exact ⟨_, rfl⟩
    · have h2 : (b != b') = true := by simp [c2]
      have h2' : True := trivial
      rw [if_pos c2]
      obtain ⟨ev, eo, so, co, ⟨hev, hco⟩, R⟩ := RULES CC; rw [← hev]
      simp only [fpart, part', Tryd.f23, Option.getD]
      simp (maxSteps := 5000000) only [SA, SB, SD, R, guardAt, binP, intP, indexAddrP, elemsOf, readCells, lenP, lenAt, resultsP, resultP, oneOr, reduceCtorEq, reduceIte, Nat.reduceEqDiff, Nat.reduceAdd, Nat.zero_add, Nat.reduceMul, Nat.reduceLT, Nat.reduceLeDiff, Int.reduceLT, Int.reduceNeg, Int.reduceLE, appendP, appendAt, letGo, setLoc, locVal, Int.reduceToNat, boxCells, und, TG, SE, SC, htu, hbl, h1, h1', h2, h2', loadR, loadP, lay, List.take_succ_cons, List.take_zero, List.drop_nil, List.filter_nil, List.cons_append]
      exact ⟨_, rfl⟩
  · have h1 : (a != a') = true := by simp [c1]
    have h1' : True := trivial
    have h2 : True := trivial
    have h2' : True := trivial
    rw [if_pos c1]
    obtain ⟨ev, eo, so, co, ⟨hev, hco⟩, R⟩ := RULES CC; rw [← hev]
    simp only [fpart, part', Tryd.f23, Option.getD]
    simp (maxSteps := 5000000) only [SA, SB, SD, R, guardAt, binP, intP, indexAddrP, elemsOf, readCells, lenP, lenAt, resultsP, resultP, oneOr, reduceCtorEq, reduceIte, Nat.reduceEqDiff, Nat.reduceAdd, Nat.zero_add, Nat.reduceMul, Nat.reduceLT, Nat.reduceLeDiff, Int.reduceLT, Int.reduceNeg, Int.reduceLE, appendP, appendAt, letGo, setLoc, locVal, Int.reduceToNat, boxCells, und, TG, SE, SC, htu, hbl, h1, h1', h2, h2', loadR, loadP, lay, List.take_succ_cons, List.take_zero, List.drop_nil, List.filter_nil, List.cons_append]
    exact ⟨_, rfl⟩
theorem call_R20_Less (v w : Vl) : ∃ bx, callL CC 24 [vlV v, vlV w] [] = some (.ret (.bool (lessV v w)), bx) := by
  rw [callL_enter (fn := Tryd.f24) (c := Tryd.f24.body.getD .skip) rfl rfl fat_R20_Less rfl ok_R20_Less (Nat.le_of_ble_eq_true rfl)]
  obtain ⟨a, b, c⟩ := v
  obtain ⟨a', b', c'⟩ := w
  obtain ⟨tu, htu⟩ := VLs
  have hbl := strP_lss c c'
  have h1' : True := trivial
  have h2' : True := trivial
  unfold lessV vlV
  simp only
  by_cases c1 : a = a'
  · have h1 : (a != a') = false := by simp [c1]
    rw [if_neg (fun h => h c1)]
    by_cases c2 : b = b'
    · have h2 : (b != b') = false := by simp [c2]
      rw [if_neg (fun h => h c2)]
      obtain ⟨ev, eo, so, co, ⟨hev, hco⟩, R⟩ := RULES CC; rw [← hev]
      simp only [fpart, part', Tryd.f24, Option.getD]
      simp (maxSteps := 5000000) only [SA, SB, SD, R, guardAt, binP, intP, indexAddrP, elemsOf, readCells, lenP, lenAt, resultsP, resultP, oneOr, reduceCtorEq, reduceIte, Nat.reduceEqDiff, Nat.reduceAdd, Nat.zero_add, Nat.reduceMul, Nat.reduceLT, Nat.reduceLeDiff, Int.reduceLT, Int.reduceNeg, Int.reduceLE, appendP, appendAt, letGo, setLoc, locVal, Int.reduceToNat, boxCells, und, TG, SE, SC, htu, hbl, h1, h1', h2, h2', loadR, loadP, lay, List.take_succ_cons, List.take_zero, List.drop_nil, List.filter_nil, List.cons_append]
      exact ⟨_, rfl⟩
    · have h2 : (b != b') = true := by simp [c2]
      rw [if_pos c2]
      obtain ⟨ev, eo, so, co, ⟨hev, hco⟩, R⟩ := RULES CC; rw [← hev]
      simp only [fpart, part', Tryd.f24, Option.getD]
      simp (maxSteps := 5000000) only [SA, SB, SD, R, guardAt, binP, intP, indexAddrP, elemsOf, readCells, lenP, lenAt, resultsP, resultP, oneOr, reduceCtorEq, reduceIte, Nat.reduceEqDiff, Nat.reduceAdd, Nat.zero_add, Nat.reduceMul, Nat.reduceLT, Nat.reduceLeDiff, Int.reduceLT, Int.reduceNeg, Int.reduceLE, appendP, appendAt, letGo, setLoc, locVal, Int.reduceToNat, boxCells, und, TG, SE, SC, htu, hbl, h1, h1', h2, h2', loadR, loadP, lay, List.take_succ_cons, List.take_zero, List.drop_nil, List.filter_nil, List.cons_append]
      exact ⟨_, rfl⟩
  · have h1 : (a != a') = true := by simp [c1]
    have h2 : True := trivial
    rw [if_pos c1]
    obtain ⟨ev, eo, so, co, ⟨hev, hco⟩, R⟩ := RULES CC; rw [← hev]
    simp only [fpart, part', Tryd.f24, Option.getD]
    simp (maxSteps := 5000000) only [SA, SB, SD, R, guardAt, binP, intP, indexAddrP, elemsOf, readCells, lenP, lenAt, resultsP, resultP, oneOr, reduceCtorEq, reduceIte, Nat.reduceEqDiff, Nat.reduceAdd, Nat.zero_add, Nat.reduceMul, Nat.reduceLT, Nat.reduceLeDiff, Int.reduceLT, Int.reduceNeg, Int.reduceLE, appendP, appendAt, letGo, setLoc, locVal, Int.reduceToNat, boxCells, und, TG, SE, SC, htu, hbl, h1, h1', h2, h2', loadR, loadP, lay, List.take_succ_cons, List.take_zero, List.drop_nil, List.filter_nil, List.cons_append]
    exact ⟨_, rfl⟩
theorem op_value_Less (v w : Vl) (bx) : callOp CC (callL CC) 23 [vlV v, vlV w] bx = some (.ret (.bool (lessV v w)), bx) := by
  obtain ⟨b, h⟩ := call_value_Less v w
  exact callOp_of rfl rfl h rfl
theorem op_R20_Less (v w : Vl) (bx) : callOp CC (callL CC) 24 [vlV v, vlV w] bx = some (.ret (.bool (lessV v w)), bx) := by
  obtain ⟨b, h⟩ := call_R20_Less v w
  exact callOp_of rfl rfl h rfl
theorem bl_irrefl : ∀ x : List UInt8, Op.bytesLess x x = false
  | [] => rfl
  | a :: x => by simp [Op.bytesLess, bl_irrefl x]
theorem bl_tri : ∀ x y : List UInt8, x ≠ y → Op.bytesLess x y = !Op.bytesLess y x
  | [], [], h => absurd rfl h
  | [], _ :: _, _ => by simp [Op.bytesLess]
  | _ :: _, [], _ => by simp [Op.bytesLess]
  | a :: x, b :: y, h => by
    by_cases e : a = b
    · subst e
      have := bl_tri x y (fun e => h (by rw [e]))
      simp [Op.bytesLess, this]
    · have e1 : (a == b) = false := by simpa using e
      have e2 : (b == a) = false := by simpa using fun h => e h.symm
      simp only [Op.bytesLess, e1, e2, Bool.false_and, Bool.or_false]
      have : a.toNat ≠ b.toNat := fun h => e (UInt8.toNat_inj.1 h)
      rw [Bool.eq_iff_iff]
      simp only [decide_eq_true_eq, Bool.not_eq_true', decide_eq_false_iff_not, UInt8.lt_iff_toNat_lt]
      omega
theorem bl_trans : ∀ x y z : List UInt8, Op.bytesLess x y = true → Op.bytesLess y z = true → Op.bytesLess x z = true
  | _, [], _, h, _ => by simp [Op.bytesLess] at h
  | _, _ :: _, [], _, h => by simp [Op.bytesLess] at h
  | [], _ :: _, _ :: _, _, _ => by simp [Op.bytesLess]
  | a :: x, b :: y, c :: z, h1, h2 => by
    simp only [Op.bytesLess, Bool.or_eq_true, Bool.and_eq_true, decide_eq_true_eq, beq_iff_eq, UInt8.lt_iff_toNat_lt] at h1 h2 ⊢
    rcases h1 with h1 | ⟨h1, h3⟩
    · rcases h2 with h2 | ⟨h2, h4⟩
      · left; omega
      · subst h2; left; exact h1
    · subst h1
      rcases h2 with h2 | ⟨h2, h4⟩
      · left; exact h2
      · right; exact ⟨h2, bl_trans x y z h3 h4⟩
theorem eqVl_true {v w : Vl} : eqVl v w = true ↔ v = w := by
  obtain ⟨a, b, c⟩ := v
  obtain ⟨a', b', c'⟩ := w
  unfold eqVl
  simp [and_assoc]
theorem less_irrefl (v : Vl) : lessV v v = false := by unfold lessV; simp [bl_irrefl]
theorem less_tri {v w : Vl} (h : v ≠ w) : lessV v w = !lessV w v := by
  obtain ⟨a, b, c⟩ := v
  obtain ⟨a', b', c'⟩ := w
  unfold lessV
  simp only
  by_cases c1 : a = a'
  · subst c1
    simp only [ne_eq, not_true_eq_false, if_false]
    by_cases c2 : b = b'
    · subst c2
      simp only [not_true_eq_false, if_false]
      exact bl_tri _ _ (fun e => h (by rw [e]))
    · rw [if_pos c2, if_pos (fun e => c2 e.symm), Bool.eq_iff_iff]
      simp
      omega
  · rw [if_pos c1, if_pos (fun e => c1 e.symm), Bool.eq_iff_iff]
    simp
    omega
theorem less_trans {u v w : Vl} (h1 : lessV u v = true) (h2 : lessV v w = true) : lessV u w = true := by
  obtain ⟨a, b, c⟩ := u
  obtain ⟨a', b', c'⟩ := v
  obtain ⟨a'', b'', c''⟩ := w
  unfold lessV at *
  simp only at *
  split at h1
  · split at h2
    · simp at h1 h2
      rw [if_pos (by omega)]
      simp; omega
    · rename_i e1 e2
      have e2 : a' = a'' := by simpa using e2
      subst e2
      rw [if_pos e1]
      exact h1
  · rename_i e1
    have e1 : a = a' := by simpa using e1
    subst e1
    split at h2
    · rename_i e2
      rw [if_pos e2]
      exact h2
    · rename_i e2
      rw [if_neg e2]
      split at h1
      · split at h2
        · simp at h1 h2
          rw [if_pos (by omega)]
          simp; omega
        · rename_i e3 e4
          have e4 : b' = b'' := by simpa using e4
          subst e4
          rw [if_pos e3]
          exact h1
      · rename_i e3
        have e3 : b = b' := by simpa using e3
        subst e3
        split at h2
        · rename_i e4
          rw [if_pos e4]
          exact h2
        · rename_i e4
          rw [if_neg e4]
          exact bl_trans _ _ _ h1 h2
theorem law_ValueOrder (a : Vl) (_ : okVl a) (b : Vl) (_ : okVl b) (c : Vl) (_ : okVl c) : ∃ bx, callL CC 9 [vlV a, vlV b, vlV c] [] = some (.ret (.bool true), bx) := by
  rw [callL_enter (fn := Tryd.f9) (c := Tryd.f9.body.getD .skip) rfl rfl fat_L20_ValueOrder rfl ok_L20_ValueOrder (Nat.le_of_ble_eq_true rfl)]
  obtain ⟨tu, htu⟩ := VLs
  have haw := op_awake
  have hab := op_value_Less a b
  have hba := op_value_Less b a
  have hbc := op_value_Less b c
  have hac := op_value_Less a c
  have htri := @less_tri a b
  have hirr := less_irrefl a
  have htr := @less_trans a b c
  have hxy2 : a = b → lessV a b = false ∧ lessV b a = false := fun e => by rw [e]; exact ⟨less_irrefl b, less_irrefl b⟩
  obtain ⟨k1, n1, s1⟩ := a
  obtain ⟨k2, n2, s2⟩ := b
  obtain ⟨k3, n3, s3⟩ := c
  have hla := len_str s1
  have hlb := len_str s2
  have hlc := len_str s3
  have heq : (((k1 == k2) && (n1 == n2) && (s1 == s2)) = true) ↔ ((k1, n1, s1) : Vl) = (k2, n2, s2) := @eqVl_true (k1, n1, s1) (k2, n2, s2)
  unfold vlV at *
  simp only at hab hba hbc hac ⊢
  generalize lessV (k1, n1, s1) (k2, n2, s2) = x at *
  generalize lessV (k2, n2, s2) (k1, n1, s1) = y at *
  generalize lessV (k2, n2, s2) (k3, n3, s3) = z at *
  generalize lessV (k1, n1, s1) (k3, n3, s3) = u at *
  generalize hq : ((k1 == k2) && (n1 == n2) && (s1 == s2)) = q at *
  by_cases d1 : 100 < s1.length
  · have d1' : (s1.length : Int) > 100 := by omega
    obtain ⟨ev, eo, so, co, ⟨hev, hco⟩, R⟩ := RULES CC; rw [← hev]
    rw [← hco] at haw
    simp only [fpart, part', Tryd.f9, Option.getD]
    simp (maxSteps := 5000000) only [SA, SB, SD, R, guardAt, binP, intP, indexAddrP, elemsOf, readCells, lenP, lenAt, resultsP, resultP, oneOr, reduceCtorEq, reduceIte, Nat.reduceEqDiff, Nat.reduceAdd, Nat.zero_add, Nat.reduceMul, Nat.reduceLT, Nat.reduceLeDiff, Int.reduceLT, Int.reduceNeg, Int.reduceLE, appendP, appendAt, letGo, setLoc, locVal, Int.reduceToNat, boxCells, und, TG, SE, SC, unP, htu, eqgV, eqVP, hla, hlb, hlc, loadR, loadP, lay, List.take_succ_cons, List.take_zero, List.drop_nil, List.filter_nil, List.cons_append, d1', haw]
    exact ⟨_, rfl⟩
  · have d1' : ¬ (s1.length : Int) > 100 := by omega
    by_cases d2 : 100 < s2.length
    · have d2' : (s2.length : Int) > 100 := by omega
      obtain ⟨ev, eo, so, co, ⟨hev, hco⟩, R⟩ := RULES CC; rw [← hev]
      rw [← hco] at haw
      simp only [fpart, part', Tryd.f9, Option.getD]
      simp (maxSteps := 5000000) only [SA, SB, SD, R, guardAt, binP, intP, indexAddrP, elemsOf, readCells, lenP, lenAt, resultsP, resultP, oneOr, reduceCtorEq, reduceIte, Nat.reduceEqDiff, Nat.reduceAdd, Nat.zero_add, Nat.reduceMul, Nat.reduceLT, Nat.reduceLeDiff, Int.reduceLT, Int.reduceNeg, Int.reduceLE, appendP, appendAt, letGo, setLoc, locVal, Int.reduceToNat, boxCells, und, TG, SE, SC, unP, htu, eqgV, eqVP, hla, hlb, hlc, loadR, loadP, lay, List.take_succ_cons, List.take_zero, List.drop_nil, List.filter_nil, List.cons_append, d1', d2', haw]
      exact ⟨_, rfl⟩
    · have d2' : ¬ (s2.length : Int) > 100 := by omega
      by_cases d3 : 100 < s3.length
      · have d3' : (s3.length : Int) > 100 := by omega
        obtain ⟨ev, eo, so, co, ⟨hev, hco⟩, R⟩ := RULES CC; rw [← hev]
        rw [← hco] at haw
        simp only [fpart, part', Tryd.f9, Option.getD]
        simp (maxSteps := 5000000) only [SA, SB, SD, R, guardAt, binP, intP, indexAddrP, elemsOf, readCells, lenP, lenAt, resultsP, resultP, oneOr, reduceCtorEq, reduceIte, Nat.reduceEqDiff, Nat.reduceAdd, Nat.zero_add, Nat.reduceMul, Nat.reduceLT, Nat.reduceLeDiff, Int.reduceLT, Int.reduceNeg, Int.reduceLE, appendP, appendAt, letGo, setLoc, locVal, Int.reduceToNat, boxCells, und, TG, SE, SC, unP, htu, eqgV, eqVP, hla, hlb, hlc, loadR, loadP, lay, List.take_succ_cons, List.take_zero, List.drop_nil, List.filter_nil, List.cons_append, d1', d2', d3', haw]
        exact ⟨_, rfl⟩
      · have d3' : ¬ (s3.length : Int) > 100 := by omega
        have tt : ((true == true) : Bool) = true := rfl
        have ff : ((false == false) : Bool) = true := rfl
        have tf : ((true == false) : Bool) = false := rfl
        have ft : ((false == true) : Bool) = false := rfl
        cases q with
        | true =>
          have e := heq.1 rfl
          have hxy := hxy2 e
          obtain ⟨rfl, rfl⟩ := hxy
          obtain ⟨ev, eo, so, co, ⟨hev, hco⟩, R⟩ := RULES CC; rw [← hev]
          rw [← hco] at haw hab hba hbc hac
          simp only [fpart, part', Tryd.f9, Option.getD]
          simp (maxSteps := 5000000) only [SA, SB, SD, R, guardAt, binP, intP, indexAddrP, elemsOf, readCells, lenP, lenAt, resultsP, resultP, oneOr, reduceCtorEq, reduceIte, Nat.reduceEqDiff, Nat.reduceAdd, Nat.zero_add, Nat.reduceMul, Nat.reduceLT, Nat.reduceLeDiff, Int.reduceLT, Int.reduceNeg, Int.reduceLE, appendP, appendAt, letGo, setLoc, locVal, Int.reduceToNat, boxCells, und, TG, SE, SC, unP, htu, eqgV, eqVP, hla, hlb, hlc, loadR, loadP, lay, List.take_succ_cons, List.take_zero, List.drop_nil, List.filter_nil, List.cons_append, d1', d2', d3', haw, hab, hba, hbc, hac, hq, tt, ff, tf, ft]
          exact ⟨_, rfl⟩
        | false =>
          have hne : ¬ ((k1, n1, s1) : Vl) = (k2, n2, s2) := fun e => by have := heq.2 e; cases this
          have hxy := htri hne
          cases y with
          | true =>
            have hx : x = false := hxy
            subst hx
            obtain ⟨ev, eo, so, co, ⟨hev, hco⟩, R⟩ := RULES CC; rw [← hev]
            rw [← hco] at haw hab hba hbc hac
            simp only [fpart, part', Tryd.f9, Option.getD]
            simp (maxSteps := 5000000) only [SA, SB, SD, R, guardAt, binP, intP, indexAddrP, elemsOf, readCells, lenP, lenAt, resultsP, resultP, oneOr, reduceCtorEq, reduceIte, Nat.reduceEqDiff, Nat.reduceAdd, Nat.zero_add, Nat.reduceMul, Nat.reduceLT, Nat.reduceLeDiff, Int.reduceLT, Int.reduceNeg, Int.reduceLE, appendP, appendAt, letGo, setLoc, locVal, Int.reduceToNat, boxCells, und, TG, SE, SC, unP, htu, eqgV, eqVP, hla, hlb, hlc, loadR, loadP, lay, List.take_succ_cons, List.take_zero, List.drop_nil, List.filter_nil, List.cons_append, d1', d2', d3', haw, hab, hba, hbc, hac, hq, tt, ff, tf, ft]
            exact ⟨_, rfl⟩
          | false =>
            have hx : x = true := hxy
            subst hx
            cases z with
            | false =>
              obtain ⟨ev, eo, so, co, ⟨hev, hco⟩, R⟩ := RULES CC; rw [← hev]
              rw [← hco] at haw hab hba hbc hac
              simp only [fpart, part', Tryd.f9, Option.getD]
              simp (maxSteps := 5000000) only [SA, SB, SD, R, guardAt, binP, intP, indexAddrP, elemsOf, readCells, lenP, lenAt, resultsP, resultP, oneOr, reduceCtorEq, reduceIte, Nat.reduceEqDiff, Nat.reduceAdd, Nat.zero_add, Nat.reduceMul, Nat.reduceLT, Nat.reduceLeDiff, Int.reduceLT, Int.reduceNeg, Int.reduceLE, appendP, appendAt, letGo, setLoc, locVal, Int.reduceToNat, boxCells, und, TG, SE, SC, unP, htu, eqgV, eqVP, hla, hlb, hlc, loadR, loadP, lay, List.take_succ_cons, List.take_zero, List.drop_nil, List.filter_nil, List.cons_append, d1', d2', d3', haw, hab, hba, hbc, hac, hq, tt, ff, tf, ft]
              exact ⟨_, rfl⟩
            | true =>
              have hu := htr rfl rfl
              subst hu
              obtain ⟨ev, eo, so, co, ⟨hev, hco⟩, R⟩ := RULES CC; rw [← hev]
              rw [← hco] at haw hab hba hbc hac
              simp only [fpart, part', Tryd.f9, Option.getD]
              simp (maxSteps := 5000000) only [SA, SB, SD, R, guardAt, binP, intP, indexAddrP, elemsOf, readCells, lenP, lenAt, resultsP, resultP, oneOr, reduceCtorEq, reduceIte, Nat.reduceEqDiff, Nat.reduceAdd, Nat.zero_add, Nat.reduceMul, Nat.reduceLT, Nat.reduceLeDiff, Int.reduceLT, Int.reduceNeg, Int.reduceLE, appendP, appendAt, letGo, setLoc, locVal, Int.reduceToNat, boxCells, und, TG, SE, SC, unP, htu, eqgV, eqVP, hla, hlb, hlc, loadR, loadP, lay, List.take_succ_cons, List.take_zero, List.drop_nil, List.filter_nil, List.cons_append, d1', d2', d3', haw, hab, hba, hbc, hac, hq, tt, ff, tf, ft]
              exact ⟨_, rfl⟩
end Go.HH
