/-
  Values: attributes as pure values; 'few', and the check of an attribute in the program.
-/
import Derived.Test.YtedpmedialplkaaDoorV4
namespace Go.HH
open Go Go.Proofs
set_option maxRecDepth 100000
set_option linter.unusedSimpArgs false
set_option linter.unusedVariables false
theorem ok_L20_few : fnOK CC Tryd.f11 (Tryd.f11.body.getD .skip) = true := by kernel_rfl
theorem fat_L20_few : CC.P.funcs[11]? = some Tryd.f11 := by kernel_rfl
theorem ok_value_Def : fnOK CC Tryd.f15 (Tryd.f15.body.getD .skip) = true := by kernel_rfl
theorem fat_value_Def : CC.P.funcs[15]? = some Tryd.f15 := by kernel_rfl
/-- an attribute: name, kind, bounds, members, and two marks -/
structure At where
  nm : List UInt8
  kd : Int
  mn : Int
  mx : Int
  en : List (List UInt8)
  wr : Bool
  sf : Bool
def attV (a : At) : PV := .agg [.str a.nm, .int .i64 a.kd, .int .i64 a.mn, .int .i64 a.mx, .sl (strs a.en), .bool a.wr, .bool a.sf]
def okAt (a : At) : Prop := inI a.kd ∧ inI a.mn ∧ inI a.mx ∧ a.nm.length ≤ maxLen ∧ a.en.length ≤ maxLen
theorem hasV_att {p : PV} (h : HasV Tryd.prog 24 p) : ∃ a : At, p = attV a ∧ okAt a := by
  have ht : Tryd.prog.underlying 24 = some (.struct ((match Tryd.prog.underlying 24 with | some (.struct f) => f | _ => #[]))) := by kernel_rfl
  have hl : ((match Tryd.prog.underlying 24 with | some (.struct f) => f | _ => #[]) : Array Field).toList.map (fun f => (f.type, f.offset)) = [(9, 0), (3, 1), (3, 2), (3, 3), (22, 4), (4, 5), (4, 6)] := by kernel_rfl
  have c0 : Tryd.prog.cellsOf 24 = 7 := by kernel_rfl
  have c1 : Tryd.prog.cellsOf 3 = 1 := by kernel_rfl
  have c2 : Tryd.prog.cellsOf 9 = 1 := by kernel_rfl
  have c3 : Tryd.prog.cellsOf 22 = 1 := by kernel_rfl
  have c4 : Tryd.prog.cellsOf 4 = 1 := by kernel_rfl
  have hus : Tryd.prog.underlying 22 = some (.slice 9) := by kernel_rfl
  obtain ⟨n, cs, rfl, hlen, hf⟩ := hasV_struct ht hl h
  rw [c0] at hlen
  match cs, hlen with
  | [a, b, c, d, e, f, g], _ =>
    have f0 := hf (9, 0) (by simp)
    have f1 := hf (3, 1) (by simp)
    have f2 := hf (3, 2) (by simp)
    have f3 := hf (3, 3) (by simp)
    have f4 := hf (22, 4) (by simp)
    have f5 := hf (4, 5) (by simp)
    have f6 := hf (4, 6) (by simp)
    simp only [c1, c2, c3, c4] at f0 f1 f2 f3 f4 f5 f6
    obtain ⟨s, e0, h0⟩ := hasT_str (P := Tryd.prog) Tryd.underlying9 f0
    obtain ⟨k, e1, h1⟩ := hasT_i64 (P := Tryd.prog) Tryd.underlying3 f1
    obtain ⟨m, e2, h2⟩ := hasT_i64 (P := Tryd.prog) Tryd.underlying3 f2
    obtain ⟨x, e3, h3⟩ := hasT_i64 (P := Tryd.prog) Tryd.underlying3 f3
    obtain ⟨l, e4, h4, h4'⟩ := hasT_slice (P := Tryd.prog) hus f4
    obtain ⟨p, e5⟩ := hasT_bool (P := Tryd.prog) Tryd.underlying4 f5
    obtain ⟨q, e6⟩ := hasT_bool (P := Tryd.prog) Tryd.underlying4 f6
    obtain ⟨l, rfl, _⟩ := list_of (f := PV.str) (Q := fun x : List UInt8 => x.length ≤ maxLen) l (fun x hx => by
      obtain ⟨s, h5, h6⟩ := hasV_str (P := Tryd.prog) Tryd.underlying9 (h4' x hx)
      exact ⟨s, h5, h6⟩)
    injection e0 with e0
    injection e1 with e1
    injection e2 with e2
    injection e3 with e3
    injection e4 with e4
    injection e5 with e5
    injection e6 with e6
    subst e0 e1 e2 e3 e4 e5 e6
    exact ⟨⟨s, k, m, x, l, p, q⟩, rfl, h1, h2, h3, h0, by simpa using h4⟩
theorem ATs : ∃ f, CC.P.underlying 24 = some (.struct f) := ⟨(match Tryd.prog.underlying 24 with | some (.struct f) => f | _ => #[]), by kernel_rfl⟩
def shortB (l : List (List UInt8)) : Bool := l.all fun s => decide (s.length ≤ 100)
/-- few members, short names, a short text -/
def fewB (a : At) (v : Vl) : Bool := decide (a.en.length ≤ 70 ∧ a.nm.length ≤ 100 ∧ v.2.2.length ≤ 100) && shortB a.en
def PFw (v : Bool) (r : Option (Ex × St)) : Prop := ∃ e' bx', (v = true ∧ r = some (.exit 0, ⟨e', bx'⟩)) ∨ (v = false ∧ r = some (.ret, ⟨e', bx'⟩) ∧ getT e' 4 = .bool false)
theorem loop_few (L : Code) (hL : L = fpart Tryd.f11 [1,1,0,1,0]) (c0 c1 c2 c3 c5 c6 : PV) (l : List (List UInt8)) (hl : l.length ≤ 1000000) (b1 : PBox) : ∀ (k i : Nat) (e : List PV), i + k = l.length → getT e 2 = .bp 0 0 → getT e 5 = .int .i64 i →
    PFw (shortB (l.drop i)) (evL CC L ⟨e, [.cells 24 [c0, c1, c2, c3, .sl (strs l), c5, c6], b1]⟩) := by
  intro k
  induction k with
  | zero =>
    intro i e hk h2 h5
    rw [evL_at (fpart Tryd.f11 [1,1,0,1,0,0]) hL]
    have hi : ¬ ((i : Int) < (l.length : Int)) := by omega
    rw [List.drop_eq_nil_of_le (by omega)]
    have hln := strs_length l
    obtain ⟨tu, htu⟩ := VLs
    obtain ⟨ta, hta⟩ := ATs
    have hlen : True := trivial
    generalize strs l = xs at *
    obtain ⟨ev, eo, so, co, ⟨hev, hco⟩, R⟩ := RULES CC; rw [← hev]
    simp only [fpart, part', Tryd.f11, Option.getD]
    simp (maxSteps := 5000000) only [SA, SB, SD, R, guardAt, binP, intP, indexAddrP, elemsOf, readCells, lenP, lenAt, resultsP, resultP, oneOr, reduceCtorEq, reduceIte, Nat.reduceEqDiff, Nat.reduceAdd, Nat.zero_add, Nat.reduceMul, Nat.reduceLT, Nat.reduceLeDiff, Int.reduceLT, Int.reduceNeg, Int.reduceLE, appendP, appendAt, letGo, setLoc, locVal, Int.reduceToNat, boxCells, und, TG, SE, SC, unP, htu, hta, hlen, loadR, loadP, lay, List.take_succ_cons, List.take_zero, List.drop_nil, List.filter_nil, List.cons_append, Int.reduceBEq, Int.reduceBNe, Int.reduceGT, Int.reduceGE, Bool.not_true, Bool.not_false, h2, h5, hln, hi]
    exact ⟨_, _, .inl ⟨rfl, rfl⟩⟩
  | succ k ih =>
    intro i e hk h2 h5
    rw [evL_at (fpart Tryd.f11 [1,1,0,1,0,0]) hL]
    have hi : ((i : Int) < (l.length : Int)) := by omega
    have hi0 : ¬ ((i : Int) < 0) := by omega
    have hdr : l.drop i = (l[i]'(by omega)) :: l.drop (i + 1) := List.drop_eq_getElem_cons (by omega)
    have hx : l[i]? = some (l[i]'(by omega)) := by simp
    generalize l[i]'(by omega) = x at *
    have hx' := strs_get hx
    have hln := strs_length l
    have hlen := len_str x
    have hw2 := wrap_i64 (n := (i : Int) + 1) ⟨by omega, by omega⟩
    have key := fun e => ih (i + 1) e (by omega)
    have cast1 : ((i + 1 : Nat) : Int) = (i : Int) + 1 := by omega
    rw [cast1] at key
    rw [hdr, show shortB (x :: l.drop (i + 1)) = (decide (x.length ≤ 100) && shortB (l.drop (i + 1))) from rfl]
    obtain ⟨tu, htu⟩ := VLs
    obtain ⟨ta, hta⟩ := ATs
    generalize shortB (l.drop (i + 1)) = v at *
    generalize strs l = xs at *
    by_cases c1 : x.length ≤ 100
    · have c1' : ¬ (x.length : Int) > 100 := by omega
      rw [decide_eq_true c1, Bool.true_and]
      obtain ⟨ev, eo, so, co, ⟨hev, hco⟩, R⟩ := RULES CC; rw [← hev]
      rw [← hev] at key
      simp only [fpart, part', Tryd.f11, Option.getD]
      simp (maxSteps := 5000000) only [SA, SB, SD, R, guardAt, binP, intP, indexAddrP, elemsOf, readCells, lenP, lenAt, resultsP, resultP, oneOr, reduceCtorEq, reduceIte, Nat.reduceEqDiff, Nat.reduceAdd, Nat.zero_add, Nat.reduceMul, Nat.reduceLT, Nat.reduceLeDiff, Int.reduceLT, Int.reduceNeg, Int.reduceLE, appendP, appendAt, letGo, setLoc, locVal, Int.reduceToNat, boxCells, und, TG, SE, SC, unP, htu, hta, hlen, loadR, loadP, lay, List.take_succ_cons, List.take_zero, List.drop_nil, List.filter_nil, List.cons_append, Int.reduceBEq, Int.reduceBNe, Int.reduceGT, Int.reduceGE, Bool.not_true, Bool.not_false, h2, h5, hln, hi, hi0, hx', hw2, c1']
      refine key _ ?_ ?_
      · simp (maxSteps := 5000000) only [SA, SB, SD, R, guardAt, binP, intP, indexAddrP, elemsOf, readCells, lenP, lenAt, resultsP, resultP, oneOr, reduceCtorEq, reduceIte, Nat.reduceEqDiff, Nat.reduceAdd, Nat.zero_add, Nat.reduceMul, Nat.reduceLT, Nat.reduceLeDiff, Int.reduceLT, Int.reduceNeg, Int.reduceLE, appendP, appendAt, letGo, setLoc, locVal, Int.reduceToNat, boxCells, und, h2]
      · simp (maxSteps := 5000000) only [SA, SB, SD, R, guardAt, binP, intP, indexAddrP, elemsOf, readCells, lenP, lenAt, resultsP, resultP, oneOr, reduceCtorEq, reduceIte, Nat.reduceEqDiff, Nat.reduceAdd, Nat.zero_add, Nat.reduceMul, Nat.reduceLT, Nat.reduceLeDiff, Int.reduceLT, Int.reduceNeg, Int.reduceLE, appendP, appendAt, letGo, setLoc, locVal, Int.reduceToNat, boxCells, und]
    · have c1' : (x.length : Int) > 100 := by omega
      rw [decide_eq_false c1, Bool.false_and]
      obtain ⟨ev, eo, so, co, ⟨hev, hco⟩, R⟩ := RULES CC; rw [← hev]
      simp only [fpart, part', Tryd.f11, Option.getD]
      simp (maxSteps := 5000000) only [SA, SB, SD, R, guardAt, binP, intP, indexAddrP, elemsOf, readCells, lenP, lenAt, resultsP, resultP, oneOr, reduceCtorEq, reduceIte, Nat.reduceEqDiff, Nat.reduceAdd, Nat.zero_add, Nat.reduceMul, Nat.reduceLT, Nat.reduceLeDiff, Int.reduceLT, Int.reduceNeg, Int.reduceLE, appendP, appendAt, letGo, setLoc, locVal, Int.reduceToNat, boxCells, und, TG, SE, SC, unP, htu, hta, hlen, loadR, loadP, lay, List.take_succ_cons, List.take_zero, List.drop_nil, List.filter_nil, List.cons_append, Int.reduceBEq, Int.reduceBNe, Int.reduceGT, Int.reduceGE, Bool.not_true, Bool.not_false, h2, h5, hln, hi, hi0, hx', c1']
      exact ⟨_, _, .inr ⟨rfl, rfl, by simp (maxSteps := 5000000) only [SA, SB, SD, R, guardAt, binP, intP, indexAddrP, elemsOf, readCells, lenP, lenAt, resultsP, resultP, oneOr, reduceCtorEq, reduceIte, Nat.reduceEqDiff, Nat.reduceAdd, Nat.zero_add, Nat.reduceMul, Nat.reduceLT, Nat.reduceLeDiff, Int.reduceLT, Int.reduceNeg, Int.reduceLE, appendP, appendAt, letGo, setLoc, locVal, Int.reduceToNat, boxCells, und]⟩⟩
theorem call_few (a : At) (v : Vl) : ∃ bx, callL CC 11 [attV a, vlV v] [] = some (.ret (.bool (fewB a v)), bx) := by
  rw [callL_enter (fn := Tryd.f11) (c := Tryd.f11.body.getD .skip) rfl rfl fat_L20_few rfl ok_L20_few (Nat.le_of_ble_eq_true rfl)]
  obtain ⟨nm, kd, mn, mx, en, wr, sf⟩ := a
  obtain ⟨k, n, s⟩ := v
  have hln := strs_length en
  have hlen := len_str s
  have hlnm := len_str nm
  obtain ⟨tu, htu⟩ := VLs
  obtain ⟨ta, hta⟩ := ATs
  unfold fewB attV vlV
  simp only
  by_cases c1 : (en.length : Int) > 70
  · rw [decide_eq_false (by omega), Bool.false_and]
    generalize strs en = xs at *
    obtain ⟨ev, eo, so, co, ⟨hev, hco⟩, R⟩ := RULES CC; rw [← hev]
    simp only [fpart, part', Tryd.f11, Option.getD]
    simp (maxSteps := 5000000) only [SA, SB, SD, R, guardAt, binP, intP, indexAddrP, elemsOf, readCells, lenP, lenAt, resultsP, resultP, oneOr, reduceCtorEq, reduceIte, Nat.reduceEqDiff, Nat.reduceAdd, Nat.zero_add, Nat.reduceMul, Nat.reduceLT, Nat.reduceLeDiff, Int.reduceLT, Int.reduceNeg, Int.reduceLE, appendP, appendAt, letGo, setLoc, locVal, Int.reduceToNat, boxCells, und, TG, SE, SC, unP, htu, hta, hlen, loadR, loadP, lay, List.take_succ_cons, List.take_zero, List.drop_nil, List.filter_nil, List.cons_append, Int.reduceBEq, Int.reduceBNe, Int.reduceGT, Int.reduceGE, Bool.not_true, Bool.not_false, hln, c1]
    exact ⟨_, rfl⟩
  · by_cases c2 : (nm.length : Int) > 100
    · rw [decide_eq_false (by omega), Bool.false_and]
      generalize strs en = xs at *
      obtain ⟨ev, eo, so, co, ⟨hev, hco⟩, R⟩ := RULES CC; rw [← hev]
      simp only [fpart, part', Tryd.f11, Option.getD]
      simp (maxSteps := 5000000) only [SA, SB, SD, R, guardAt, binP, intP, indexAddrP, elemsOf, readCells, lenP, lenAt, resultsP, resultP, oneOr, reduceCtorEq, reduceIte, Nat.reduceEqDiff, Nat.reduceAdd, Nat.zero_add, Nat.reduceMul, Nat.reduceLT, Nat.reduceLeDiff, Int.reduceLT, Int.reduceNeg, Int.reduceLE, appendP, appendAt, letGo, setLoc, locVal, Int.reduceToNat, boxCells, und, TG, SE, SC, unP, htu, hta, hlen, loadR, loadP, lay, List.take_succ_cons, List.take_zero, List.drop_nil, List.filter_nil, List.cons_append, Int.reduceBEq, Int.reduceBNe, Int.reduceGT, Int.reduceGE, Bool.not_true, Bool.not_false, hln, hlnm, c1, c2]
      exact ⟨_, rfl⟩
    · by_cases c3 : (s.length : Int) > 100
      · rw [decide_eq_false (by omega), Bool.false_and]
        generalize strs en = xs at *
        obtain ⟨ev, eo, so, co, ⟨hev, hco⟩, R⟩ := RULES CC; rw [← hev]
        simp only [fpart, part', Tryd.f11, Option.getD]
        simp (maxSteps := 5000000) only [SA, SB, SD, R, guardAt, binP, intP, indexAddrP, elemsOf, readCells, lenP, lenAt, resultsP, resultP, oneOr, reduceCtorEq, reduceIte, Nat.reduceEqDiff, Nat.reduceAdd, Nat.zero_add, Nat.reduceMul, Nat.reduceLT, Nat.reduceLeDiff, Int.reduceLT, Int.reduceNeg, Int.reduceLE, appendP, appendAt, letGo, setLoc, locVal, Int.reduceToNat, boxCells, und, TG, SE, SC, unP, htu, hta, hlen, loadR, loadP, lay, List.take_succ_cons, List.take_zero, List.drop_nil, List.filter_nil, List.cons_append, Int.reduceBEq, Int.reduceBNe, Int.reduceGT, Int.reduceGE, Bool.not_true, Bool.not_false, hln, hlnm, c1, c2, c3]
        exact ⟨_, rfl⟩
      · rw [decide_eq_true (by omega), Bool.true_and]
        have hloop := fun c0 c1 c2 c3 c5 c6 b1 e => loop_few _ rfl c0 c1 c2 c3 c5 c6 en (by omega) b1 en.length 0 e (by omega)
        rw [List.drop_zero] at hloop
        generalize shortB en = v at *
        generalize strs en = xs at *
        obtain ⟨ev, eo, so, co, ⟨hev, hco⟩, R⟩ := RULES CC; rw [← hev]
        rw [← hev] at hloop
        simp only [fpart, part', Tryd.f11, Option.getD] at hloop ⊢
        simp (maxSteps := 5000000) only [SA, SB, SD, R, guardAt, binP, intP, indexAddrP, elemsOf, readCells, lenP, lenAt, resultsP, resultP, oneOr, reduceCtorEq, reduceIte, Nat.reduceEqDiff, Nat.reduceAdd, Nat.zero_add, Nat.reduceMul, Nat.reduceLT, Nat.reduceLeDiff, Int.reduceLT, Int.reduceNeg, Int.reduceLE, appendP, appendAt, letGo, setLoc, locVal, Int.reduceToNat, boxCells, und, TG, SE, SC, unP, htu, hta, hlen, loadR, loadP, lay, List.take_succ_cons, List.take_zero, List.drop_nil, List.filter_nil, List.cons_append, Int.reduceBEq, Int.reduceBNe, Int.reduceGT, Int.reduceGE, Bool.not_true, Bool.not_false, hln, hlnm, c1, c2, c3]
        generalize hE : ev _ _ = z
        have hP : PFw v z := by
          rw [← hE]
          refine hloop _ _ _ _ _ _ _ _ ?_ ?_
          · simp (maxSteps := 5000000) only [SA, SB, SD, R, guardAt, binP, intP, indexAddrP, elemsOf, readCells, lenP, lenAt, resultsP, resultP, oneOr, reduceCtorEq, reduceIte, Nat.reduceEqDiff, Nat.reduceAdd, Nat.zero_add, Nat.reduceMul, Nat.reduceLT, Nat.reduceLeDiff, Int.reduceLT, Int.reduceNeg, Int.reduceLE, appendP, appendAt, letGo, setLoc, locVal, Int.reduceToNat, boxCells, und]
          · simp (maxSteps := 5000000) only [SA, SB, SD, R, guardAt, binP, intP, indexAddrP, elemsOf, readCells, lenP, lenAt, resultsP, resultP, oneOr, reduceCtorEq, reduceIte, Nat.reduceEqDiff, Nat.reduceAdd, Nat.zero_add, Nat.reduceMul, Nat.reduceLT, Nat.reduceLeDiff, Int.reduceLT, Int.reduceNeg, Int.reduceLE, appendP, appendAt, letGo, setLoc, locVal, Int.reduceToNat, boxCells, und]; rfl
        obtain ⟨e', bx', ⟨hv, he⟩ | ⟨hv, he, g4⟩⟩ := hP
        · subst he
          subst hv
          simp (maxSteps := 5000000) only [SA, SB, SD, R, guardAt, binP, intP, indexAddrP, elemsOf, readCells, lenP, lenAt, resultsP, resultP, oneOr, reduceCtorEq, reduceIte, Nat.reduceEqDiff, Nat.reduceAdd, Nat.zero_add, Nat.reduceMul, Nat.reduceLT, Nat.reduceLeDiff, Int.reduceLT, Int.reduceNeg, Int.reduceLE, appendP, appendAt, letGo, setLoc, locVal, Int.reduceToNat, boxCells, und, TG, SE]
          exact ⟨_, rfl⟩
        · subst he
          subst hv
          simp (maxSteps := 5000000) only [SA, SB, SD, R, guardAt, binP, intP, indexAddrP, elemsOf, readCells, lenP, lenAt, resultsP, resultP, oneOr, reduceCtorEq, reduceIte, Nat.reduceEqDiff, Nat.reduceAdd, Nat.zero_add, Nat.reduceMul, Nat.reduceLT, Nat.reduceLeDiff, Int.reduceLT, Int.reduceNeg, Int.reduceLE, appendP, appendAt, letGo, setLoc, locVal, Int.reduceToNat, boxCells, und, TG, SE, g4]
          exact ⟨_, rfl⟩
theorem attV_pure (a : At) : (attV a).pure = true := by
  unfold attV
  simp only [SA, SE, strs_pure, Bool.and_true]
theorem op_few (a : At) (v : Vl) (bx) : callOp CC (callL CC) 11 [attV a, vlV v] bx = some (.ret (.bool (fewB a v)), bx) := by
  obtain ⟨b, h⟩ := call_few a v
  exact callOp_of rfl (by show ((attV a).pure && ((vlV v).pure && true)) = true; rw [attV_pure]; rfl) h rfl
/-- are the bounds wrong for the kind? -/
def bdB (a : At) : Prop := if a.kd = 2 then ¬ (inR a.mn = true ∧ inR a.mx = true ∧ a.mn ≤ a.mx) else ¬ (a.mn = 0 ∧ a.mx = 0)
noncomputable instance (a : At) : Decidable (bdB a) := Classical.propDecidable _
/-- what 'Def' says of an attribute -/
noncomputable def dfV (a : At) : Int := if valB a.nm = false then 10 else if a.kd < 1 ∨ 4 < a.kd then 7 else if bdB a then 2 else if a.kd = 3 then mbV a.en else if a.en.length > 0 then 4 else 0
def shAt (a : At) : Prop := a.nm.length ≤ 1000 ∧ a.en.length ≤ 1000000 ∧ ∀ s ∈ a.en, s.length ≤ 1000
theorem call_value_Def (a : At) (ha : shAt a) : ∃ bx, callL CC 15 [attV a] [] = some (.ret (.int .i64 (dfV a)), bx) := by
  rw [callL_enter (fn := Tryd.f15) (c := Tryd.f15.body.getD .skip) rfl rfl fat_value_Def rfl ok_value_Def (Nat.le_of_ble_eq_true rfl)]
  obtain ⟨nm, kd, mn, mx, en, wr, sf⟩ := a
  obtain ⟨ha1, ha2, ha3⟩ := ha
  simp only at ha1 ha2 ha3
  have hln := strs_length en
  have hlen : True := trivial
  obtain ⟨tu, htu⟩ := VLs
  obtain ⟨ta, hta⟩ := ATs
  have hv := op_names_Valid nm ha1
  have hmb := op_value_members en ha2 ha3
  have r1 := op_value_inRange mn
  have r2 := op_value_inRange mx
  unfold dfV bdB attV
  simp only
  generalize mbV en = mb at *
  generalize strs en = xs at *
  cases hb : valB nm with
  | false =>
    rw [hb] at hv
    rw [if_pos rfl]
    obtain ⟨ev, eo, so, co, ⟨hev, hco⟩, R⟩ := RULES CC; rw [← hev]
    rw [← hco] at hv
    simp only [fpart, part', Tryd.f15, Option.getD]
    simp (maxSteps := 5000000) only [SA, SB, SD, R, guardAt, binP, intP, indexAddrP, elemsOf, readCells, lenP, lenAt, resultsP, resultP, oneOr, reduceCtorEq, reduceIte, Nat.reduceEqDiff, Nat.reduceAdd, Nat.zero_add, Nat.reduceMul, Nat.reduceLT, Nat.reduceLeDiff, Int.reduceLT, Int.reduceNeg, Int.reduceLE, appendP, appendAt, letGo, setLoc, locVal, Int.reduceToNat, boxCells, und, TG, SE, SC, unP, htu, hta, hlen, loadR, loadP, lay, List.take_succ_cons, List.take_zero, List.drop_nil, List.filter_nil, List.cons_append, Int.reduceBEq, Int.reduceBNe, Int.reduceGT, Int.reduceGE, Bool.not_true, Bool.not_false, hln, hv]
    exact ⟨_, rfl⟩
  | true =>
    rw [hb] at hv
    rw [if_neg (by simp)]
    by_cases k1 : kd < 1
    · rw [if_pos (.inl k1)]
      obtain ⟨ev, eo, so, co, ⟨hev, hco⟩, R⟩ := RULES CC; rw [← hev]
      rw [← hco] at hv
      simp only [fpart, part', Tryd.f15, Option.getD]
      simp (maxSteps := 5000000) only [SA, SB, SD, R, guardAt, binP, intP, indexAddrP, elemsOf, readCells, lenP, lenAt, resultsP, resultP, oneOr, reduceCtorEq, reduceIte, Nat.reduceEqDiff, Nat.reduceAdd, Nat.zero_add, Nat.reduceMul, Nat.reduceLT, Nat.reduceLeDiff, Int.reduceLT, Int.reduceNeg, Int.reduceLE, appendP, appendAt, letGo, setLoc, locVal, Int.reduceToNat, boxCells, und, TG, SE, SC, unP, htu, hta, hlen, loadR, loadP, lay, List.take_succ_cons, List.take_zero, List.drop_nil, List.filter_nil, List.cons_append, Int.reduceBEq, Int.reduceBNe, Int.reduceGT, Int.reduceGE, Bool.not_true, Bool.not_false, hln, hv, k1]
      exact ⟨_, rfl⟩
    by_cases k2 : kd > 4
    · rw [if_pos (.inr k2)]
      obtain ⟨ev, eo, so, co, ⟨hev, hco⟩, R⟩ := RULES CC; rw [← hev]
      rw [← hco] at hv
      simp only [fpart, part', Tryd.f15, Option.getD]
      simp (maxSteps := 5000000) only [SA, SB, SD, R, guardAt, binP, intP, indexAddrP, elemsOf, readCells, lenP, lenAt, resultsP, resultP, oneOr, reduceCtorEq, reduceIte, Nat.reduceEqDiff, Nat.reduceAdd, Nat.zero_add, Nat.reduceMul, Nat.reduceLT, Nat.reduceLeDiff, Int.reduceLT, Int.reduceNeg, Int.reduceLE, appendP, appendAt, letGo, setLoc, locVal, Int.reduceToNat, boxCells, und, TG, SE, SC, unP, htu, hta, hlen, loadR, loadP, lay, List.take_succ_cons, List.take_zero, List.drop_nil, List.filter_nil, List.cons_append, Int.reduceBEq, Int.reduceBNe, Int.reduceGT, Int.reduceGE, Bool.not_true, Bool.not_false, hln, hv, k1, k2]
      exact ⟨_, rfl⟩
    rw [if_neg (by omega)]
    by_cases k3 : kd = 2
    · subst k3
      simp only [if_true]
      have f23 : ¬ ((2 : Int) = 3) := by decide
      rw [if_neg f23]
      cases hm : inR mn with
      | false =>
        rw [hm] at r1
        rw [if_pos (by simp)]
        obtain ⟨ev, eo, so, co, ⟨hev, hco⟩, R⟩ := RULES CC; rw [← hev]
        rw [← hco] at hv r1
        simp only [fpart, part', Tryd.f15, Option.getD]
        simp (maxSteps := 5000000) only [SA, SB, SD, R, guardAt, binP, intP, indexAddrP, elemsOf, readCells, lenP, lenAt, resultsP, resultP, oneOr, reduceCtorEq, reduceIte, Nat.reduceEqDiff, Nat.reduceAdd, Nat.zero_add, Nat.reduceMul, Nat.reduceLT, Nat.reduceLeDiff, Int.reduceLT, Int.reduceNeg, Int.reduceLE, appendP, appendAt, letGo, setLoc, locVal, Int.reduceToNat, boxCells, und, TG, SE, SC, unP, htu, hta, hlen, loadR, loadP, lay, List.take_succ_cons, List.take_zero, List.drop_nil, List.filter_nil, List.cons_append, Int.reduceBEq, Int.reduceBNe, Int.reduceGT, Int.reduceGE, Bool.not_true, Bool.not_false, hln, hv, r1]
        exact ⟨_, rfl⟩
      | true =>
        rw [hm] at r1
        cases hx : inR mx with
        | false =>
          rw [hx] at r2
          rw [if_pos (by simp)]
          obtain ⟨ev, eo, so, co, ⟨hev, hco⟩, R⟩ := RULES CC; rw [← hev]
          rw [← hco] at hv r1 r2
          simp only [fpart, part', Tryd.f15, Option.getD]
          simp (maxSteps := 5000000) only [SA, SB, SD, R, guardAt, binP, intP, indexAddrP, elemsOf, readCells, lenP, lenAt, resultsP, resultP, oneOr, reduceCtorEq, reduceIte, Nat.reduceEqDiff, Nat.reduceAdd, Nat.zero_add, Nat.reduceMul, Nat.reduceLT, Nat.reduceLeDiff, Int.reduceLT, Int.reduceNeg, Int.reduceLE, appendP, appendAt, letGo, setLoc, locVal, Int.reduceToNat, boxCells, und, TG, SE, SC, unP, htu, hta, hlen, loadR, loadP, lay, List.take_succ_cons, List.take_zero, List.drop_nil, List.filter_nil, List.cons_append, Int.reduceBEq, Int.reduceBNe, Int.reduceGT, Int.reduceGE, Bool.not_true, Bool.not_false, hln, hv, r1, r2]
          exact ⟨_, rfl⟩
        | true =>
          rw [hx] at r2
          by_cases c : mn > mx
          · rw [if_pos (by rintro ⟨_, _, h⟩; omega)]
            obtain ⟨ev, eo, so, co, ⟨hev, hco⟩, R⟩ := RULES CC; rw [← hev]
            rw [← hco] at hv r1 r2
            simp only [fpart, part', Tryd.f15, Option.getD]
            simp (maxSteps := 5000000) only [SA, SB, SD, R, guardAt, binP, intP, indexAddrP, elemsOf, readCells, lenP, lenAt, resultsP, resultP, oneOr, reduceCtorEq, reduceIte, Nat.reduceEqDiff, Nat.reduceAdd, Nat.zero_add, Nat.reduceMul, Nat.reduceLT, Nat.reduceLeDiff, Int.reduceLT, Int.reduceNeg, Int.reduceLE, appendP, appendAt, letGo, setLoc, locVal, Int.reduceToNat, boxCells, und, TG, SE, SC, unP, htu, hta, hlen, loadR, loadP, lay, List.take_succ_cons, List.take_zero, List.drop_nil, List.filter_nil, List.cons_append, Int.reduceBEq, Int.reduceBNe, Int.reduceGT, Int.reduceGE, Bool.not_true, Bool.not_false, hln, hv, r1, r2, c]
            exact ⟨_, rfl⟩
          · rw [if_neg (fun h => h ⟨rfl, rfl, by omega⟩)]
            by_cases d : (en.length : Int) > 0
            · rw [if_pos (by omega)]
              obtain ⟨ev, eo, so, co, ⟨hev, hco⟩, R⟩ := RULES CC; rw [← hev]
              rw [← hco] at hv r1 r2
              simp only [fpart, part', Tryd.f15, Option.getD]
              simp (maxSteps := 5000000) only [SA, SB, SD, R, guardAt, binP, intP, indexAddrP, elemsOf, readCells, lenP, lenAt, resultsP, resultP, oneOr, reduceCtorEq, reduceIte, Nat.reduceEqDiff, Nat.reduceAdd, Nat.zero_add, Nat.reduceMul, Nat.reduceLT, Nat.reduceLeDiff, Int.reduceLT, Int.reduceNeg, Int.reduceLE, appendP, appendAt, letGo, setLoc, locVal, Int.reduceToNat, boxCells, und, TG, SE, SC, unP, htu, hta, hlen, loadR, loadP, lay, List.take_succ_cons, List.take_zero, List.drop_nil, List.filter_nil, List.cons_append, Int.reduceBEq, Int.reduceBNe, Int.reduceGT, Int.reduceGE, Bool.not_true, Bool.not_false, hln, hv, r1, r2, c, d]
              exact ⟨_, rfl⟩
            · rw [if_neg (by omega)]
              obtain ⟨ev, eo, so, co, ⟨hev, hco⟩, R⟩ := RULES CC; rw [← hev]
              rw [← hco] at hv r1 r2
              simp only [fpart, part', Tryd.f15, Option.getD]
              simp (maxSteps := 5000000) only [SA, SB, SD, R, guardAt, binP, intP, indexAddrP, elemsOf, readCells, lenP, lenAt, resultsP, resultP, oneOr, reduceCtorEq, reduceIte, Nat.reduceEqDiff, Nat.reduceAdd, Nat.zero_add, Nat.reduceMul, Nat.reduceLT, Nat.reduceLeDiff, Int.reduceLT, Int.reduceNeg, Int.reduceLE, appendP, appendAt, letGo, setLoc, locVal, Int.reduceToNat, boxCells, und, TG, SE, SC, unP, htu, hta, hlen, loadR, loadP, lay, List.take_succ_cons, List.take_zero, List.drop_nil, List.filter_nil, List.cons_append, Int.reduceBEq, Int.reduceBNe, Int.reduceGT, Int.reduceGE, Bool.not_true, Bool.not_false, hln, hv, r1, r2, c, d]
              exact ⟨_, rfl⟩
    · have k3' : (kd == 2) = false := by simpa using k3
      simp only [if_neg k3]
      by_cases m1 : mn = 0
      · have m1' : (mn != 0) = false := by simp [m1]
        by_cases m2 : mx = 0
        · have m2' : (mx != 0) = false := by simp [m2]
          rw [if_neg (fun h => h ⟨m1, m2⟩)]
          by_cases k4 : kd = 3
          · have k4' : (kd == 3) = true := by simpa using k4
            rw [if_pos k4]
            obtain ⟨ev, eo, so, co, ⟨hev, hco⟩, R⟩ := RULES CC; rw [← hev]
            rw [← hco] at hv hmb
            simp only [fpart, part', Tryd.f15, Option.getD]
            simp (maxSteps := 5000000) only [SA, SB, SD, R, guardAt, binP, intP, indexAddrP, elemsOf, readCells, lenP, lenAt, resultsP, resultP, oneOr, reduceCtorEq, reduceIte, Nat.reduceEqDiff, Nat.reduceAdd, Nat.zero_add, Nat.reduceMul, Nat.reduceLT, Nat.reduceLeDiff, Int.reduceLT, Int.reduceNeg, Int.reduceLE, appendP, appendAt, letGo, setLoc, locVal, Int.reduceToNat, boxCells, und, TG, SE, SC, unP, htu, hta, hlen, loadR, loadP, lay, List.take_succ_cons, List.take_zero, List.drop_nil, List.filter_nil, List.cons_append, Int.reduceBEq, Int.reduceBNe, Int.reduceGT, Int.reduceGE, Bool.not_true, Bool.not_false, hln, hv, hmb, k1, k2, k3', k4', m1', m2']
            exact ⟨_, rfl⟩
          · have k4' : (kd == 3) = false := by simpa using k4
            rw [if_neg k4]
            by_cases d : (en.length : Int) > 0
            · rw [if_pos (by omega)]
              obtain ⟨ev, eo, so, co, ⟨hev, hco⟩, R⟩ := RULES CC; rw [← hev]
              rw [← hco] at hv
              simp only [fpart, part', Tryd.f15, Option.getD]
              simp (maxSteps := 5000000) only [SA, SB, SD, R, guardAt, binP, intP, indexAddrP, elemsOf, readCells, lenP, lenAt, resultsP, resultP, oneOr, reduceCtorEq, reduceIte, Nat.reduceEqDiff, Nat.reduceAdd, Nat.zero_add, Nat.reduceMul, Nat.reduceLT, Nat.reduceLeDiff, Int.reduceLT, Int.reduceNeg, Int.reduceLE, appendP, appendAt, letGo, setLoc, locVal, Int.reduceToNat, boxCells, und, TG, SE, SC, unP, htu, hta, hlen, loadR, loadP, lay, List.take_succ_cons, List.take_zero, List.drop_nil, List.filter_nil, List.cons_append, Int.reduceBEq, Int.reduceBNe, Int.reduceGT, Int.reduceGE, Bool.not_true, Bool.not_false, hln, hv, k1, k2, k3', k4', m1', m2', d]
              exact ⟨_, rfl⟩
            · rw [if_neg (by omega)]
              obtain ⟨ev, eo, so, co, ⟨hev, hco⟩, R⟩ := RULES CC; rw [← hev]
              rw [← hco] at hv
              simp only [fpart, part', Tryd.f15, Option.getD]
              simp (maxSteps := 5000000) only [SA, SB, SD, R, guardAt, binP, intP, indexAddrP, elemsOf, readCells, lenP, lenAt, resultsP, resultP, oneOr, reduceCtorEq, reduceIte, Nat.reduceEqDiff, Nat.reduceAdd, Nat.zero_add, Nat.reduceMul, Nat.reduceLT, Nat.reduceLeDiff, Int.reduceLT, Int.reduceNeg, Int.reduceLE, appendP, appendAt, letGo, setLoc, locVal, Int.reduceToNat, boxCells, und, TG, SE, SC, unP, htu, hta, hlen, loadR, loadP, lay, List.take_succ_cons, List.take_zero, List.drop_nil, List.filter_nil, List.cons_append, Int.reduceBEq, Int.reduceBNe, Int.reduceGT, Int.reduceGE, Bool.not_true, Bool.not_false, hln, hv, k1, k2, k3', k4', m1', m2', d]
              exact ⟨_, rfl⟩
        · have m2' : (mx != 0) = true := by simp [m2]
          rw [if_pos (fun h => m2 h.2)]
          obtain ⟨ev, eo, so, co, ⟨hev, hco⟩, R⟩ := RULES CC; rw [← hev]
          rw [← hco] at hv
          simp only [fpart, part', Tryd.f15, Option.getD]
          simp (maxSteps := 5000000) only [SA, SB, SD, R, guardAt, binP, intP, indexAddrP, elemsOf, readCells, lenP, lenAt, resultsP, resultP, oneOr, reduceCtorEq, reduceIte, Nat.reduceEqDiff, Nat.reduceAdd, Nat.zero_add, Nat.reduceMul, Nat.reduceLT, Nat.reduceLeDiff, Int.reduceLT, Int.reduceNeg, Int.reduceLE, appendP, appendAt, letGo, setLoc, locVal, Int.reduceToNat, boxCells, und, TG, SE, SC, unP, htu, hta, hlen, loadR, loadP, lay, List.take_succ_cons, List.take_zero, List.drop_nil, List.filter_nil, List.cons_append, Int.reduceBEq, Int.reduceBNe, Int.reduceGT, Int.reduceGE, Bool.not_true, Bool.not_false, hln, hv, k1, k2, k3', m1', m2']
          exact ⟨_, rfl⟩
      · have m1' : (mn != 0) = true := by simp [m1]
        rw [if_pos (fun h => m1 h.1)]
        obtain ⟨ev, eo, so, co, ⟨hev, hco⟩, R⟩ := RULES CC; rw [← hev]
        rw [← hco] at hv
        simp only [fpart, part', Tryd.f15, Option.getD]
        simp (maxSteps := 5000000) only [SA, SB, SD, R, guardAt, binP, intP, indexAddrP, elemsOf, readCells, lenP, lenAt, resultsP, resultP, oneOr, reduceCtorEq, reduceIte, Nat.reduceEqDiff, Nat.reduceAdd, Nat.zero_add, Nat.reduceMul, Nat.reduceLT, Nat.reduceLeDiff, Int.reduceLT, Int.reduceNeg, Int.reduceLE, appendP, appendAt, letGo, setLoc, locVal, Int.reduceToNat, boxCells, und, TG, SE, SC, unP, htu, hta, hlen, loadR, loadP, lay, List.take_succ_cons, List.take_zero, List.drop_nil, List.filter_nil, List.cons_append, Int.reduceBEq, Int.reduceBNe, Int.reduceGT, Int.reduceGE, Bool.not_true, Bool.not_false, hln, hv, k1, k2, k3', m1']
        exact ⟨_, rfl⟩
theorem op_value_Def (a : At) (ha : shAt a) (bx) : callOp CC (callL CC) 15 [attV a] bx = some (.ret (.int .i64 (dfV a)), bx) := by
  obtain ⟨b, h⟩ := call_value_Def a ha
  exact callOp_of rfl (by show ((attV a).pure && true) = true; rw [attV_pure]; rfl) h rfl
end Go.HH
