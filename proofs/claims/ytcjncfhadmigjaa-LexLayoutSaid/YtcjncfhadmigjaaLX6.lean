/-
  Tokens: the program's small functions.
-/
import Derived.Test.YtcjncfhadmigjaaLX5
namespace Go.HH
open Go Go.Proofs
set_option maxRecDepth 100000
set_option linter.unusedSimpArgs false
set_option linter.unusedVariables false
theorem ok_lex_at : fnOK CC Try.f22 (Try.f22.body.getD .skip) = true := by kernel_rfl
theorem fat_lex_at : CC.P.funcs[22]? = some Try.f22 := by kernel_rfl
theorem ok_lex_run : fnOK CC Try.f24 (Try.f24.body.getD .skip) = true := by kernel_rfl
theorem fat_lex_run : CC.P.funcs[24]? = some Try.f24 := by kernel_rfl
theorem ok_lex_skip : fnOK CC Try.f16 (Try.f16.body.getD .skip) = true := by kernel_rfl
theorem fat_lex_skip : CC.P.funcs[16]? = some Try.f16 := by kernel_rfl
theorem ok_lex_number : fnOK CC Try.f28 (Try.f28.body.getD .skip) = true := by kernel_rfl
theorem fat_lex_number : CC.P.funcs[28]? = some Try.f28 := by kernel_rfl
theorem opd_func (C : Cfg) (e : List PV) (f : FuncId) : opd C e (.func f) = .fn f [] [] := rfl
noncomputable def chkB (f : FuncId) (g : Nat → Bool) (n : Nat) : Bool := match callF CC 50 f [.int .i32 n] [] with
  | some (.ret (.bool b), []) => b == g n
  | _ => false
theorem of_chkB {f : FuncId} {g : Nat → Bool} (h : (List.range 256).all (chkB f g) = true) (n : Nat) (hn : n < 256) (bx) : callOp CC (callL CC) f [.int .i32 (n : Int)] bx = some (.ret (.bool (g n)), bx) := by
  have := List.all_eq_true.1 h n (List.mem_range.2 hn)
  unfold chkB at this
  split at this
  · rename_i b hs
    have e : b = g n := by simpa using this
    subst e
    exact callOp_of rfl (by simp only [SA, Bool.and_true]) (callL_iff.2 ⟨50, hs⟩) rfl
  · cases this
def dg (n : Nat) : Bool := decide (48 ≤ n) && decide (n ≤ 57)
def sm (n : Nat) : Bool := decide (97 ≤ n) && decide (n ≤ 122)
def pt (n : Nat) : Bool := sm n || dg n || n == 95 || n == 45
def nl (n : Nat) : Bool := n != 10
theorem all_dg : (List.range 256).all (chkB 23 dg) = true := by kernel_rfl
theorem all_sm : (List.range 256).all (chkB 26 sm) = true := by kernel_rfl
theorem all_pt : (List.range 256).all (chkB 27 pt) = true := by kernel_rfl
theorem all_nl : (List.range 256).all (chkB 25 nl) = true := by kernel_rfl
theorem op_lex_digit (n : Nat) (hn : n < 256) (bx) : callOp CC (callL CC) 23 [.int .i32 (n : Int)] bx = some (.ret (.bool (dg n)), bx) := of_chkB all_dg n hn bx
theorem op_lex_small (n : Nat) (hn : n < 256) (bx) : callOp CC (callL CC) 26 [.int .i32 (n : Int)] bx = some (.ret (.bool (sm n)), bx) := of_chkB all_sm n hn bx
/-- the byte at an offset; 0 at the end -/
def atL (s : List UInt8) (i : Nat) : Nat := match s[i]? with
  | some c => c.toNat
  | none => 0
theorem atL_lt (s : List UInt8) (i : Nat) : atL s i < 256 := by
  unfold atL
  split
  · exact UInt8.toNat_lt _
  · omega
theorem atL_get {s : List UInt8} {i : Nat} {c : UInt8} (h : s[i]? = some c) : atL s i = c.toNat := by unfold atL; rw [h]
theorem call_lex_at (s : List UInt8) (i : Nat) : callL CC 22 [.str s, .int .i64 (i : Int)] [] = some (.ret (.int .i32 (atL s i : Int)), []) := by
  rw [callL_enter (fn := Try.f22) (c := Try.f22.body.getD .skip) rfl rfl fat_lex_at rfl ok_lex_at (Nat.le_of_ble_eq_true rfl)]
  have hlen := len_str s
  by_cases c1 : (i : Int) ≥ (s.length : Int)
  · have e : atL s i = 0 := by unfold atL; rw [List.getElem?_eq_none (by omega)]
    rw [e]
    obtain ⟨ev, eo, so, co, ⟨hev, hco⟩, R⟩ := RULES CC; rw [← hev]
    simp only [fpart, part', Try.f22, Option.getD]
    simp (maxSteps := 5000000) only [SA, SB, SD, R, guardAt, binP, intP, indexAddrP, elemsOf, readCells, lenP, lenAt, resultsP, resultP, oneOr, reduceCtorEq, reduceIte, Nat.reduceEqDiff, Nat.reduceAdd, Nat.zero_add, Nat.reduceMul, Nat.reduceLT, Nat.reduceLeDiff, Int.reduceLT, Int.reduceNeg, Int.reduceLE, appendP, appendAt, letGo, setLoc, locVal, Int.reduceToNat, boxCells, und, TG, hlen, c1]
    rfl
  · have hx : s[i]? = some (s[i]'(by omega)) := by simp
    have e := atL_get hx
    have hix := ix_str s i _ hx
    have h256 := UInt8.toNat_lt (s[i]'(by omega))
    have hcv := conv_u8_r ((s[i]'(by omega)).toNat : Int) ⟨by omega, by omega⟩
    rw [e]
    generalize s[i]'(by omega) = c at *
    obtain ⟨ev, eo, so, co, ⟨hev, hco⟩, R⟩ := RULES CC; rw [← hev]
    simp only [fpart, part', Try.f22, Option.getD]
    simp (maxSteps := 5000000) only [SA, SB, SD, R, guardAt, binP, intP, indexAddrP, elemsOf, readCells, lenP, lenAt, resultsP, resultP, oneOr, reduceCtorEq, reduceIte, Nat.reduceEqDiff, Nat.reduceAdd, Nat.zero_add, Nat.reduceMul, Nat.reduceLT, Nat.reduceLeDiff, Int.reduceLT, Int.reduceNeg, Int.reduceLE, appendP, appendAt, letGo, setLoc, locVal, Int.reduceToNat, boxCells, und, TG, hlen, c1, hix, hcv]
theorem op_lex_at (s : List UInt8) (i : Nat) (bx) : callOp CC (callL CC) 22 [.str s, .int .i64 (i : Int)] bx = some (.ret (.int .i32 (atL s i : Int)), bx) := callOp_of rfl (by simp only [SA, Bool.and_true]) (call_lex_at s i) rfl
/-- the offset behind the bytes that are so -/
def runL (p : Nat → Bool) (s : List UInt8) (i : Nat) : Nat := i + ((s.drop i).takeWhile fun c => p c.toNat).length
theorem runL_step {p : Nat → Bool} {s : List UInt8} {i : Nat} {c : UInt8} (h : s[i]? = some c) : runL p s i = if p c.toNat then runL p s (i + 1) else i := by
  have hi : i < s.length := (List.getElem?_eq_some_iff.1 h).1
  have hc : s[i] = c := (List.getElem?_eq_some_iff.1 h).2
  unfold runL
  rw [List.drop_eq_getElem_cons hi, List.takeWhile_cons, hc]
  split
  · rw [List.length_cons]; omega
  · simp
theorem runL_end {p : Nat → Bool} {s : List UInt8} {i : Nat} (h : s.length ≤ i) : runL p s i = i := by
  unfold runL
  rw [List.drop_eq_nil_of_le h]
  rfl
theorem runL_le {p : Nat → Bool} {s : List UInt8} {i : Nat} (h : i ≤ s.length) : i ≤ runL p s i ∧ runL p s i ≤ s.length := by
  unfold runL
  have : ((s.drop i).takeWhile fun c => p c.toNat).length ≤ (s.drop i).length := List.Sublist.length_le (List.takeWhile_sublist _)
  rw [List.length_drop] at this
  omega
theorem loop_lex_run (L : Code) (hL : L = fpart Try.f24 [1,0,0]) (s : List UInt8) (hs : s.length ≤ 900000) (f : FuncId) (p : Nat → Bool) (hf : ∀ (n : Nat), n < 256 → ∀ bx, callOp CC (callL CC) f [.int .i32 (n : Int)] bx = some (.ret (.bool (p n)), bx)) : ∀ (k i : Nat) (e : List PV), i + k = s.length → getT e 0 = .str s → getT e 1 = .int .i64 i → getT e 2 = .fn f [] [] →
    ∃ e', evL CC L ⟨e, []⟩ = some (.exit 0, ⟨e', []⟩) ∧ getT e' 1 = .int .i64 (runL p s i : Nat) := by
  intro k
  induction k with
  | zero =>
    intro i e hk h0 h1 h2
    rw [evL_at (fpart Try.f24 [1,0,0,0]) hL]
    have hi : ¬ (i : Int) < (s.length : Int) := by omega
    have hlen := len_str s
    have hr := runL_end (p := p) (s := s) (i := i) (by omega)
    obtain ⟨ev, eo, so, co, ⟨hev, hco⟩, R⟩ := RULES CC; rw [← hev]
    simp only [fpart, part', Try.f24, Option.getD]
    simp (maxSteps := 5000000) only [SA, SB, SD, R, guardAt, binP, intP, indexAddrP, elemsOf, readCells, lenP, lenAt, resultsP, resultP, oneOr, reduceCtorEq, reduceIte, Nat.reduceEqDiff, Nat.reduceAdd, Nat.zero_add, Nat.reduceMul, Nat.reduceLT, Nat.reduceLeDiff, Int.reduceLT, Int.reduceNeg, Int.reduceLE, appendP, appendAt, letGo, setLoc, locVal, Int.reduceToNat, boxCells, und, TG, SE, h0, h1, h2, hlen, hi]
    exact ⟨_, rfl, by simp (maxSteps := 5000000) only [SA, SB, SD, R, guardAt, binP, intP, indexAddrP, elemsOf, readCells, lenP, lenAt, resultsP, resultP, oneOr, reduceCtorEq, reduceIte, Nat.reduceEqDiff, Nat.reduceAdd, Nat.zero_add, Nat.reduceMul, Nat.reduceLT, Nat.reduceLeDiff, Int.reduceLT, Int.reduceNeg, Int.reduceLE, appendP, appendAt, letGo, setLoc, locVal, Int.reduceToNat, boxCells, und, h1, hr]⟩
  | succ k ih =>
    intro i e hk h0 h1 h2
    rw [evL_at (fpart Try.f24 [1,0,0,0]) hL]
    have hi : (i : Int) < (s.length : Int) := by omega
    have hlen := len_str s
    have hx : s[i]? = some (s[i]'(by omega)) := by simp
    have hix := ix_str s i _ hx
    have hst := runL_step (p := p) hx
    have h256 := UInt8.toNat_lt (s[i]'(by omega))
    have hcv := conv_u8_r ((s[i]'(by omega)).toNat : Int) ⟨by omega, by omega⟩
    have hfo := hf (s[i]'(by omega)).toNat h256
    have hw := wrap_i64 (n := (i : Int) + 1) ⟨by omega, by omega⟩
    generalize s[i]'(by omega) = c at *
    rw [hst]
    obtain ⟨ev, eo, so, co, ⟨hev, hco⟩, R⟩ := RULES CC; rw [← hev]
    rw [← hev] at ih
    rw [← hco] at hfo
    simp only [fpart, part', Try.f24, Option.getD]
    cases hp : p c.toNat with
    | false =>
      rw [hp] at hfo
      simp (maxSteps := 5000000) only [SA, SB, SD, R, guardAt, binP, intP, indexAddrP, elemsOf, readCells, lenP, lenAt, resultsP, resultP, oneOr, reduceCtorEq, reduceIte, Nat.reduceEqDiff, Nat.reduceAdd, Nat.zero_add, Nat.reduceMul, Nat.reduceLT, Nat.reduceLeDiff, Int.reduceLT, Int.reduceNeg, Int.reduceLE, appendP, appendAt, letGo, setLoc, locVal, Int.reduceToNat, boxCells, und, TG, SE, dynR, h0, h1, h2, hlen, hi, hix, hcv, hfo]
      exact ⟨_, rfl, by simp (maxSteps := 5000000) only [SA, SB, SD, R, guardAt, binP, intP, indexAddrP, elemsOf, readCells, lenP, lenAt, resultsP, resultP, oneOr, reduceCtorEq, reduceIte, Nat.reduceEqDiff, Nat.reduceAdd, Nat.zero_add, Nat.reduceMul, Nat.reduceLT, Nat.reduceLeDiff, Int.reduceLT, Int.reduceNeg, Int.reduceLE, appendP, appendAt, letGo, setLoc, locVal, Int.reduceToNat, boxCells, und, h1]⟩
    | true =>
      rw [hp] at hfo
      simp (maxSteps := 5000000) only [SA, SB, SD, R, guardAt, binP, intP, indexAddrP, elemsOf, readCells, lenP, lenAt, resultsP, resultP, oneOr, reduceCtorEq, reduceIte, Nat.reduceEqDiff, Nat.reduceAdd, Nat.zero_add, Nat.reduceMul, Nat.reduceLT, Nat.reduceLeDiff, Int.reduceLT, Int.reduceNeg, Int.reduceLE, appendP, appendAt, letGo, setLoc, locVal, Int.reduceToNat, boxCells, und, TG, SE, dynR, h0, h1, h2, hlen, hi, hix, hcv, hfo, hw]
      exact ih (i + 1) _ (by omega) (by simp (maxSteps := 5000000) only [SA, SB, SD, R, guardAt, binP, intP, indexAddrP, elemsOf, readCells, lenP, lenAt, resultsP, resultP, oneOr, reduceCtorEq, reduceIte, Nat.reduceEqDiff, Nat.reduceAdd, Nat.zero_add, Nat.reduceMul, Nat.reduceLT, Nat.reduceLeDiff, Int.reduceLT, Int.reduceNeg, Int.reduceLE, appendP, appendAt, letGo, setLoc, locVal, Int.reduceToNat, boxCells, und, h0]) (by simp (maxSteps := 5000000) only [SA, SB, SD, R, guardAt, binP, intP, indexAddrP, elemsOf, readCells, lenP, lenAt, resultsP, resultP, oneOr, reduceCtorEq, reduceIte, Nat.reduceEqDiff, Nat.reduceAdd, Nat.zero_add, Nat.reduceMul, Nat.reduceLT, Nat.reduceLeDiff, Int.reduceLT, Int.reduceNeg, Int.reduceLE, appendP, appendAt, letGo, setLoc, locVal, Int.reduceToNat, boxCells, und]; rfl) (by simp (maxSteps := 5000000) only [SA, SB, SD, R, guardAt, binP, intP, indexAddrP, elemsOf, readCells, lenP, lenAt, resultsP, resultP, oneOr, reduceCtorEq, reduceIte, Nat.reduceEqDiff, Nat.reduceAdd, Nat.zero_add, Nat.reduceMul, Nat.reduceLT, Nat.reduceLeDiff, Int.reduceLT, Int.reduceNeg, Int.reduceLE, appendP, appendAt, letGo, setLoc, locVal, Int.reduceToNat, boxCells, und, h2])
theorem call_lex_run (s : List UInt8) (hs : s.length ≤ 900000) (f : FuncId) (p : Nat → Bool) (hf : ∀ (n : Nat), n < 256 → ∀ bx, callOp CC (callL CC) f [.int .i32 (n : Int)] bx = some (.ret (.bool (p n)), bx)) (i : Nat) (hi : i ≤ s.length) :
    callL CC 24 [.str s, .int .i64 (i : Int), .fn f [] []] [] = some (.ret (.int .i64 (runL p s i : Nat)), []) := by
  rw [callL_enter (fn := Try.f24) (c := Try.f24.body.getD .skip) rfl rfl fat_lex_run rfl ok_lex_run (Nat.le_of_ble_eq_true rfl)]
  have hloop := loop_lex_run _ rfl s hs f p hf (s.length - i) i
  obtain ⟨ev, eo, so, co, ⟨hev, hco⟩, R⟩ := RULES CC; rw [← hev]
  rw [← hev] at hloop
  simp only [fpart, part', Try.f24, Option.getD] at hloop ⊢
  simp (maxSteps := 5000000) only [SA, SB, SD, R, guardAt, binP, intP, indexAddrP, elemsOf, readCells, lenP, lenAt, resultsP, resultP, oneOr, reduceCtorEq, reduceIte, Nat.reduceEqDiff, Nat.reduceAdd, Nat.zero_add, Nat.reduceMul, Nat.reduceLT, Nat.reduceLeDiff, Int.reduceLT, Int.reduceNeg, Int.reduceLE, appendP, appendAt, letGo, setLoc, locVal, Int.reduceToNat, boxCells, und, TG, SE]
  generalize hE : ev _ _ = r
  obtain ⟨e', he, g1⟩ := useLoop' hE (hloop _ (by omega) (by simp (maxSteps := 5000000) only [SA, SB, SD, R, guardAt, binP, intP, indexAddrP, elemsOf, readCells, lenP, lenAt, resultsP, resultP, oneOr, reduceCtorEq, reduceIte, Nat.reduceEqDiff, Nat.reduceAdd, Nat.zero_add, Nat.reduceMul, Nat.reduceLT, Nat.reduceLeDiff, Int.reduceLT, Int.reduceNeg, Int.reduceLE, appendP, appendAt, letGo, setLoc, locVal, Int.reduceToNat, boxCells, und]) (by simp (maxSteps := 5000000) only [SA, SB, SD, R, guardAt, binP, intP, indexAddrP, elemsOf, readCells, lenP, lenAt, resultsP, resultP, oneOr, reduceCtorEq, reduceIte, Nat.reduceEqDiff, Nat.reduceAdd, Nat.zero_add, Nat.reduceMul, Nat.reduceLT, Nat.reduceLeDiff, Int.reduceLT, Int.reduceNeg, Int.reduceLE, appendP, appendAt, letGo, setLoc, locVal, Int.reduceToNat, boxCells, und]) (by simp (maxSteps := 5000000) only [SA, SB, SD, R, guardAt, binP, intP, indexAddrP, elemsOf, readCells, lenP, lenAt, resultsP, resultP, oneOr, reduceCtorEq, reduceIte, Nat.reduceEqDiff, Nat.reduceAdd, Nat.zero_add, Nat.reduceMul, Nat.reduceLT, Nat.reduceLeDiff, Int.reduceLT, Int.reduceNeg, Int.reduceLE, appendP, appendAt, letGo, setLoc, locVal, Int.reduceToNat, boxCells, und]))
  subst he
  simp (maxSteps := 5000000) only [SA, SB, SD, R, guardAt, binP, intP, indexAddrP, elemsOf, readCells, lenP, lenAt, resultsP, resultP, oneOr, reduceCtorEq, reduceIte, Nat.reduceEqDiff, Nat.reduceAdd, Nat.zero_add, Nat.reduceMul, Nat.reduceLT, Nat.reduceLeDiff, Int.reduceLT, Int.reduceNeg, Int.reduceLE, appendP, appendAt, letGo, setLoc, locVal, Int.reduceToNat, boxCells, und, TG, SE, g1]
theorem op_lex_run_part (s : List UInt8) (hs : s.length ≤ 900000) (i : Nat) (hi : i ≤ s.length) (bx) : callOp CC (callL CC) 24 [.str s, .int .i64 (i : Int), .fn 27 [] []] bx = some (.ret (.int .i64 (runL pt s i : Nat)), bx) :=
  callOp_of rfl (by simp only [SA, SE, Bool.and_true]) (call_lex_run s hs _ pt (of_chkB all_pt) i hi) rfl
theorem op_lex_run_digit (s : List UInt8) (hs : s.length ≤ 900000) (i : Nat) (hi : i ≤ s.length) (bx) : callOp CC (callL CC) 24 [.str s, .int .i64 (i : Int), .fn 23 [] []] bx = some (.ret (.int .i64 (runL dg s i : Nat)), bx) :=
  callOp_of rfl (by simp only [SA, SE, Bool.and_true]) (call_lex_run s hs _ dg (of_chkB all_dg) i hi) rfl
theorem op_lex_run_nl (s : List UInt8) (hs : s.length ≤ 900000) (i : Nat) (hi : i ≤ s.length) (bx) : callOp CC (callL CC) 24 [.str s, .int .i64 (i : Int), .fn 25 [] []] bx = some (.ret (.int .i64 (runL nl s i : Nat)), bx) :=
  callOp_of rfl (by simp only [SA, SE, Bool.and_true]) (call_lex_run s hs _ nl (of_chkB all_nl) i hi) rfl
/-- the offset behind blanks and comments -/
def skipL : Nat → List UInt8 → Nat → Nat
  | 0, _, i => i
  | m + 1, s, i => if i < s.length then
      (if atL s i = 32 ∨ atL s i = 9 ∨ atL s i = 10 then skipL m s (i + 1)
       else if atL s i = 35 ∧ dg (atL s (i + 1)) = false then skipL m s (runL nl s i) else i) else i
/-- what the loop comes to -/
def PSk (v : Nat) (r : Option (Ex × St)) : Prop := ∃ e', (r = some (.exit 0, ⟨e', []⟩) ∧ getT e' 1 = .int .i64 (v : Int)) ∨ (r = some (.ret, ⟨e', []⟩) ∧ getT e' 4 = .int .i64 (v : Int))
theorem loop_lex_skip (L : Code) (hL : L = fpart Try.f16 [1,0,0]) (s : List UInt8) (hs : s.length ≤ 900000) : ∀ (m i : Nat) (e : List PV), s.length - i < m → i ≤ s.length → getT e 0 = .str s → getT e 1 = .int .i64 i →
    PSk (skipL m s i) (evL CC L ⟨e, []⟩) := by
  intro m
  induction m with
  | zero => intro i e hm; omega
  | succ m ih =>
    intro i e hm hi h0 h1
    rw [evL_at (fpart Try.f16 [1,0,0,0]) hL]
    have hlen := len_str s
    have hsk : skipL (m + 1) s i = if i < s.length then
      (if atL s i = 32 ∨ atL s i = 9 ∨ atL s i = 10 then skipL m s (i + 1)
       else if atL s i = 35 ∧ dg (atL s (i + 1)) = false then skipL m s (runL nl s i) else i) else i := rfl
    rw [hsk]
    have hat := op_lex_at s i
    have hat1 := op_lex_at s (i + 1)
    have hdg := op_lex_digit (atL s (i + 1)) (atL_lt s (i + 1))
    have hrun := op_lex_run_nl s hs i hi
    have hw := wrap_i64 (n := (i : Int) + 1) ⟨by omega, by omega⟩
    have h32 : (((atL s i : Nat) : Int) == 32) = decide (atL s i = 32) := by rw [Bool.eq_iff_iff]; simp; omega
    have h9 : (((atL s i : Nat) : Int) == 9) = decide (atL s i = 9) := by rw [Bool.eq_iff_iff]; simp; omega
    have h10 : (((atL s i : Nat) : Int) == 10) = decide (atL s i = 10) := by rw [Bool.eq_iff_iff]; simp; omega
    have h35 : (((atL s i : Nat) : Int) == 35) = decide (atL s i = 35) := by rw [Bool.eq_iff_iff]; simp; omega
    have hrl : atL s i = 35 → i < s.length → i < runL nl s i ∧ runL nl s i ≤ s.length := fun h hl => by
      have hx : s[i]? = some s[i] := by simp
      have h2 := runL_step (p := nl) hx
      rw [atL_get hx] at h
      rw [h] at h2
      have h3 : nl 35 = true := rfl
      rw [h3, if_pos rfl] at h2
      have := runL_le (p := nl) (s := s) (i := i + 1) (by omega)
      omega
    have key1 := fun e => ih (i + 1) e
    have key2 := fun e => ih (runL nl s i) e
    by_cases hlt : i < s.length
    · have hil : (i : Int) < (s.length : Int) := by omega
      rw [if_pos hlt]
      have k1 := fun e => key1 e (by omega) (by omega)
      have cast1 : ((i + 1 : Nat) : Int) = (i : Int) + 1 := by omega
      rw [cast1] at hat1
      by_cases c1 : atL s i = 32 ∨ atL s i = 9 ∨ atL s i = 10
      · rw [if_pos c1]
        obtain ⟨ev, eo, so, co, ⟨hev, hco⟩, R⟩ := RULES CC; rw [← hev]
        rw [← hev] at k1
        rw [← hco] at hat
        simp only [fpart, part', Try.f16, Option.getD]
        by_cases d1 : atL s i = 32
        · rw [decide_eq_true d1] at h32
          simp (maxSteps := 5000000) only [SA, SB, SD, R, guardAt, binP, intP, indexAddrP, elemsOf, readCells, lenP, lenAt, resultsP, resultP, oneOr, reduceCtorEq, reduceIte, Nat.reduceEqDiff, Nat.reduceAdd, Nat.zero_add, Nat.reduceMul, Nat.reduceLT, Nat.reduceLeDiff, Int.reduceLT, Int.reduceNeg, Int.reduceLE, appendP, appendAt, letGo, setLoc, locVal, Int.reduceToNat, boxCells, und, TG, SE, h0, h1, hlen, hil, hat, h32, hw]
          exact k1 _ (by simp (maxSteps := 5000000) only [SA, SB, SD, R, guardAt, binP, intP, indexAddrP, elemsOf, readCells, lenP, lenAt, resultsP, resultP, oneOr, reduceCtorEq, reduceIte, Nat.reduceEqDiff, Nat.reduceAdd, Nat.zero_add, Nat.reduceMul, Nat.reduceLT, Nat.reduceLeDiff, Int.reduceLT, Int.reduceNeg, Int.reduceLE, appendP, appendAt, letGo, setLoc, locVal, Int.reduceToNat, boxCells, und, h0]) (by simp (maxSteps := 5000000) only [SA, SB, SD, R, guardAt, binP, intP, indexAddrP, elemsOf, readCells, lenP, lenAt, resultsP, resultP, oneOr, reduceCtorEq, reduceIte, Nat.reduceEqDiff, Nat.reduceAdd, Nat.zero_add, Nat.reduceMul, Nat.reduceLT, Nat.reduceLeDiff, Int.reduceLT, Int.reduceNeg, Int.reduceLE, appendP, appendAt, letGo, setLoc, locVal, Int.reduceToNat, boxCells, und]; rfl)
        · by_cases d2 : atL s i = 9
          · rw [decide_eq_false d1] at h32
            rw [decide_eq_true d2] at h9
            simp (maxSteps := 5000000) only [SA, SB, SD, R, guardAt, binP, intP, indexAddrP, elemsOf, readCells, lenP, lenAt, resultsP, resultP, oneOr, reduceCtorEq, reduceIte, Nat.reduceEqDiff, Nat.reduceAdd, Nat.zero_add, Nat.reduceMul, Nat.reduceLT, Nat.reduceLeDiff, Int.reduceLT, Int.reduceNeg, Int.reduceLE, appendP, appendAt, letGo, setLoc, locVal, Int.reduceToNat, boxCells, und, TG, SE, h0, h1, hlen, hil, hat, h32, h9, hw]
            exact k1 _ (by simp (maxSteps := 5000000) only [SA, SB, SD, R, guardAt, binP, intP, indexAddrP, elemsOf, readCells, lenP, lenAt, resultsP, resultP, oneOr, reduceCtorEq, reduceIte, Nat.reduceEqDiff, Nat.reduceAdd, Nat.zero_add, Nat.reduceMul, Nat.reduceLT, Nat.reduceLeDiff, Int.reduceLT, Int.reduceNeg, Int.reduceLE, appendP, appendAt, letGo, setLoc, locVal, Int.reduceToNat, boxCells, und, h0]) (by simp (maxSteps := 5000000) only [SA, SB, SD, R, guardAt, binP, intP, indexAddrP, elemsOf, readCells, lenP, lenAt, resultsP, resultP, oneOr, reduceCtorEq, reduceIte, Nat.reduceEqDiff, Nat.reduceAdd, Nat.zero_add, Nat.reduceMul, Nat.reduceLT, Nat.reduceLeDiff, Int.reduceLT, Int.reduceNeg, Int.reduceLE, appendP, appendAt, letGo, setLoc, locVal, Int.reduceToNat, boxCells, und]; rfl)
          · have d3 : atL s i = 10 := by omega
            rw [decide_eq_false d1] at h32
            rw [decide_eq_false d2] at h9
            rw [decide_eq_true d3] at h10
            simp (maxSteps := 5000000) only [SA, SB, SD, R, guardAt, binP, intP, indexAddrP, elemsOf, readCells, lenP, lenAt, resultsP, resultP, oneOr, reduceCtorEq, reduceIte, Nat.reduceEqDiff, Nat.reduceAdd, Nat.zero_add, Nat.reduceMul, Nat.reduceLT, Nat.reduceLeDiff, Int.reduceLT, Int.reduceNeg, Int.reduceLE, appendP, appendAt, letGo, setLoc, locVal, Int.reduceToNat, boxCells, und, TG, SE, h0, h1, hlen, hil, hat, h32, h9, h10, hw]
            exact k1 _ (by simp (maxSteps := 5000000) only [SA, SB, SD, R, guardAt, binP, intP, indexAddrP, elemsOf, readCells, lenP, lenAt, resultsP, resultP, oneOr, reduceCtorEq, reduceIte, Nat.reduceEqDiff, Nat.reduceAdd, Nat.zero_add, Nat.reduceMul, Nat.reduceLT, Nat.reduceLeDiff, Int.reduceLT, Int.reduceNeg, Int.reduceLE, appendP, appendAt, letGo, setLoc, locVal, Int.reduceToNat, boxCells, und, h0]) (by simp (maxSteps := 5000000) only [SA, SB, SD, R, guardAt, binP, intP, indexAddrP, elemsOf, readCells, lenP, lenAt, resultsP, resultP, oneOr, reduceCtorEq, reduceIte, Nat.reduceEqDiff, Nat.reduceAdd, Nat.zero_add, Nat.reduceMul, Nat.reduceLT, Nat.reduceLeDiff, Int.reduceLT, Int.reduceNeg, Int.reduceLE, appendP, appendAt, letGo, setLoc, locVal, Int.reduceToNat, boxCells, und]; rfl)
      · rw [if_neg c1]
        have d1 : ¬ atL s i = 32 := by omega
        have d2 : ¬ atL s i = 9 := by omega
        have d3 : ¬ atL s i = 10 := by omega
        rw [decide_eq_false d1] at h32
        rw [decide_eq_false d2] at h9
        rw [decide_eq_false d3] at h10
        by_cases c2 : atL s i = 35
        · rw [decide_eq_true c2] at h35
          have hr := hrl c2 hlt
          have k2 := fun e => key2 e (by omega) (by omega)
          cases hd : dg (atL s (i + 1)) with
          | true =>
            rw [hd] at hdg
            rw [if_neg (fun h => by cases h.2)]
            obtain ⟨ev, eo, so, co, ⟨hev, hco⟩, R⟩ := RULES CC; rw [← hev]
            rw [← hco] at hat hat1 hdg
            simp only [fpart, part', Try.f16, Option.getD]
            simp (maxSteps := 5000000) only [SA, SB, SD, R, guardAt, binP, intP, indexAddrP, elemsOf, readCells, lenP, lenAt, resultsP, resultP, oneOr, reduceCtorEq, reduceIte, Nat.reduceEqDiff, Nat.reduceAdd, Nat.zero_add, Nat.reduceMul, Nat.reduceLT, Nat.reduceLeDiff, Int.reduceLT, Int.reduceNeg, Int.reduceLE, appendP, appendAt, letGo, setLoc, locVal, Int.reduceToNat, boxCells, und, TG, SE, unP, h0, h1, hlen, hil, hat, h32, h9, h10, h35, hw, hat1, hdg]
            exact ⟨_, .inr ⟨rfl, by simp (maxSteps := 5000000) only [SA, SB, SD, R, guardAt, binP, intP, indexAddrP, elemsOf, readCells, lenP, lenAt, resultsP, resultP, oneOr, reduceCtorEq, reduceIte, Nat.reduceEqDiff, Nat.reduceAdd, Nat.zero_add, Nat.reduceMul, Nat.reduceLT, Nat.reduceLeDiff, Int.reduceLT, Int.reduceNeg, Int.reduceLE, appendP, appendAt, letGo, setLoc, locVal, Int.reduceToNat, boxCells, und, h1]⟩⟩
          | false =>
            rw [hd] at hdg
            rw [if_pos ⟨c2, rfl⟩]
            generalize runL nl s i = rr at *
            obtain ⟨ev, eo, so, co, ⟨hev, hco⟩, R⟩ := RULES CC; rw [← hev]
            rw [← hev] at k2
            rw [← hco] at hat hat1 hdg hrun
            simp only [fpart, part', Try.f16, Option.getD]
            simp (maxSteps := 5000000) only [SA, SB, SD, R, guardAt, binP, intP, indexAddrP, elemsOf, readCells, lenP, lenAt, resultsP, resultP, oneOr, reduceCtorEq, reduceIte, Nat.reduceEqDiff, Nat.reduceAdd, Nat.zero_add, Nat.reduceMul, Nat.reduceLT, Nat.reduceLeDiff, Int.reduceLT, Int.reduceNeg, Int.reduceLE, appendP, appendAt, letGo, setLoc, locVal, Int.reduceToNat, boxCells, und, TG, SE, unP, h0, h1, hlen, hil, hat, h32, h9, h10, h35, hw, hat1, hdg, hrun, opd_func]
            exact k2 _ (by simp (maxSteps := 5000000) only [SA, SB, SD, R, guardAt, binP, intP, indexAddrP, elemsOf, readCells, lenP, lenAt, resultsP, resultP, oneOr, reduceCtorEq, reduceIte, Nat.reduceEqDiff, Nat.reduceAdd, Nat.zero_add, Nat.reduceMul, Nat.reduceLT, Nat.reduceLeDiff, Int.reduceLT, Int.reduceNeg, Int.reduceLE, appendP, appendAt, letGo, setLoc, locVal, Int.reduceToNat, boxCells, und, h0]) (by simp (maxSteps := 5000000) only [SA, SB, SD, R, guardAt, binP, intP, indexAddrP, elemsOf, readCells, lenP, lenAt, resultsP, resultP, oneOr, reduceCtorEq, reduceIte, Nat.reduceEqDiff, Nat.reduceAdd, Nat.zero_add, Nat.reduceMul, Nat.reduceLT, Nat.reduceLeDiff, Int.reduceLT, Int.reduceNeg, Int.reduceLE, appendP, appendAt, letGo, setLoc, locVal, Int.reduceToNat, boxCells, und])
        · rw [if_neg (fun h => c2 h.1)]
          rw [decide_eq_false c2] at h35
          obtain ⟨ev, eo, so, co, ⟨hev, hco⟩, R⟩ := RULES CC; rw [← hev]
          rw [← hco] at hat
          simp only [fpart, part', Try.f16, Option.getD]
          simp (maxSteps := 5000000) only [SA, SB, SD, R, guardAt, binP, intP, indexAddrP, elemsOf, readCells, lenP, lenAt, resultsP, resultP, oneOr, reduceCtorEq, reduceIte, Nat.reduceEqDiff, Nat.reduceAdd, Nat.zero_add, Nat.reduceMul, Nat.reduceLT, Nat.reduceLeDiff, Int.reduceLT, Int.reduceNeg, Int.reduceLE, appendP, appendAt, letGo, setLoc, locVal, Int.reduceToNat, boxCells, und, TG, SE, h0, h1, hlen, hil, hat, h32, h9, h10, h35]
          exact ⟨_, .inr ⟨rfl, by simp (maxSteps := 5000000) only [SA, SB, SD, R, guardAt, binP, intP, indexAddrP, elemsOf, readCells, lenP, lenAt, resultsP, resultP, oneOr, reduceCtorEq, reduceIte, Nat.reduceEqDiff, Nat.reduceAdd, Nat.zero_add, Nat.reduceMul, Nat.reduceLT, Nat.reduceLeDiff, Int.reduceLT, Int.reduceNeg, Int.reduceLE, appendP, appendAt, letGo, setLoc, locVal, Int.reduceToNat, boxCells, und, h1]⟩⟩
    · have hil : ¬ (i : Int) < (s.length : Int) := by omega
      rw [if_neg hlt]
      obtain ⟨ev, eo, so, co, ⟨hev, hco⟩, R⟩ := RULES CC; rw [← hev]
      simp only [fpart, part', Try.f16, Option.getD]
      simp (maxSteps := 5000000) only [SA, SB, SD, R, guardAt, binP, intP, indexAddrP, elemsOf, readCells, lenP, lenAt, resultsP, resultP, oneOr, reduceCtorEq, reduceIte, Nat.reduceEqDiff, Nat.reduceAdd, Nat.zero_add, Nat.reduceMul, Nat.reduceLT, Nat.reduceLeDiff, Int.reduceLT, Int.reduceNeg, Int.reduceLE, appendP, appendAt, letGo, setLoc, locVal, Int.reduceToNat, boxCells, und, TG, SE, h0, h1, hlen, hil]
      exact ⟨_, .inl ⟨rfl, by simp (maxSteps := 5000000) only [SA, SB, SD, R, guardAt, binP, intP, indexAddrP, elemsOf, readCells, lenP, lenAt, resultsP, resultP, oneOr, reduceCtorEq, reduceIte, Nat.reduceEqDiff, Nat.reduceAdd, Nat.zero_add, Nat.reduceMul, Nat.reduceLT, Nat.reduceLeDiff, Int.reduceLT, Int.reduceNeg, Int.reduceLE, appendP, appendAt, letGo, setLoc, locVal, Int.reduceToNat, boxCells, und, h1]⟩⟩
theorem call_lex_skip (s : List UInt8) (hs : s.length ≤ 900000) (i : Nat) (hi : i ≤ s.length) : callL CC 16 [.str s, .int .i64 (i : Int)] [] = some (.ret (.int .i64 (skipL (s.length + 1) s i : Nat)), []) := by
  rw [callL_enter (fn := Try.f16) (c := Try.f16.body.getD .skip) rfl rfl fat_lex_skip rfl ok_lex_skip (Nat.le_of_ble_eq_true rfl)]
  have hloop := loop_lex_skip _ rfl s hs (s.length + 1) i
  obtain ⟨ev, eo, so, co, ⟨hev, hco⟩, R⟩ := RULES CC; rw [← hev]
  rw [← hev] at hloop
  simp only [fpart, part', Try.f16, Option.getD] at hloop ⊢
  simp (maxSteps := 5000000) only [SA, SB, SD, R, guardAt, binP, intP, indexAddrP, elemsOf, readCells, lenP, lenAt, resultsP, resultP, oneOr, reduceCtorEq, reduceIte, Nat.reduceEqDiff, Nat.reduceAdd, Nat.zero_add, Nat.reduceMul, Nat.reduceLT, Nat.reduceLeDiff, Int.reduceLT, Int.reduceNeg, Int.reduceLE, appendP, appendAt, letGo, setLoc, locVal, Int.reduceToNat, boxCells, und, TG, SE]
  generalize hE : ev _ _ = r
  have hP : PSk (skipL (s.length + 1) s i) r := by
    rw [← hE]
    exact hloop _ (by omega) hi (by simp (maxSteps := 5000000) only [SA, SB, SD, R, guardAt, binP, intP, indexAddrP, elemsOf, readCells, lenP, lenAt, resultsP, resultP, oneOr, reduceCtorEq, reduceIte, Nat.reduceEqDiff, Nat.reduceAdd, Nat.zero_add, Nat.reduceMul, Nat.reduceLT, Nat.reduceLeDiff, Int.reduceLT, Int.reduceNeg, Int.reduceLE, appendP, appendAt, letGo, setLoc, locVal, Int.reduceToNat, boxCells, und]) (by simp (maxSteps := 5000000) only [SA, SB, SD, R, guardAt, binP, intP, indexAddrP, elemsOf, readCells, lenP, lenAt, resultsP, resultP, oneOr, reduceCtorEq, reduceIte, Nat.reduceEqDiff, Nat.reduceAdd, Nat.zero_add, Nat.reduceMul, Nat.reduceLT, Nat.reduceLeDiff, Int.reduceLT, Int.reduceNeg, Int.reduceLE, appendP, appendAt, letGo, setLoc, locVal, Int.reduceToNat, boxCells, und])
  obtain ⟨e', ⟨he, g1⟩ | ⟨he, g4⟩⟩ := hP
  · subst he
    simp (maxSteps := 5000000) only [SA, SB, SD, R, guardAt, binP, intP, indexAddrP, elemsOf, readCells, lenP, lenAt, resultsP, resultP, oneOr, reduceCtorEq, reduceIte, Nat.reduceEqDiff, Nat.reduceAdd, Nat.zero_add, Nat.reduceMul, Nat.reduceLT, Nat.reduceLeDiff, Int.reduceLT, Int.reduceNeg, Int.reduceLE, appendP, appendAt, letGo, setLoc, locVal, Int.reduceToNat, boxCells, und, TG, SE, g1]
  · subst he
    simp (maxSteps := 5000000) only [SA, SB, SD, R, guardAt, binP, intP, indexAddrP, elemsOf, readCells, lenP, lenAt, resultsP, resultP, oneOr, reduceCtorEq, reduceIte, Nat.reduceEqDiff, Nat.reduceAdd, Nat.zero_add, Nat.reduceMul, Nat.reduceLT, Nat.reduceLeDiff, Int.reduceLT, Int.reduceNeg, Int.reduceLE, appendP, appendAt, letGo, setLoc, locVal, Int.reduceToNat, boxCells, und, TG, SE, g4]
theorem op_lex_skip (s : List UInt8) (hs : s.length ≤ 900000) (i : Nat) (hi : i ≤ s.length) (bx) : callOp CC (callL CC) 16 [.str s, .int .i64 (i : Int)] bx = some (.ret (.int .i64 (skipL (s.length + 1) s i : Nat)), bx) := callOp_of rfl (by simp only [SA, Bool.and_true]) (call_lex_skip s hs i hi) rfl
end Go.HH
