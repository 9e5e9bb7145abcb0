/-
  Logs: the text of an entry, in the program and in the specification; the law of texts.
-/
import Derived.Test.YtbbhmdpbojoheaaDoorY4
import Derived.Test.YtbbhmdpbojoheaaDoorVPJ
namespace Go.HH
open Go Go.Proofs
set_option maxRecDepth 100000
set_option maxHeartbeats 4000000
set_option linter.unusedSimpArgs false
set_option linter.unusedVariables false
def wordN : Nat → List UInt8
  | 1 => [114, 101, 112, 111, 114, 116]
  | 2 => [101, 118, 101, 110, 116]
  | 3 => [114, 117, 108, 101]
  | 4 => [119, 114, 105, 116, 101]
  | 5 => [98, 108, 111, 99, 107]
  | 6 => [108, 111, 99, 107]
  | 7 => [102, 114, 101, 101]
  | 8 => [109, 111, 100, 101]
  | 9 => [114, 101, 113, 117, 101, 115, 116]
  | 10 => [115, 116, 97, 114, 116]
  | 11 => [110, 111, 116, 105, 102, 121]
  | _ => [63]
def wordT (k : Int) : List UInt8 := if 1 ≤ k ∧ k ≤ 11 then wordN k.toNat else [63]
def origN : Nat → List UInt8
  | 1 => [101, 110, 101, 114, 103, 121]
  | 2 => [114, 117, 108, 101]
  | 3 => [109, 101, 109, 98, 101, 114]
  | 4 => [115, 97, 102, 101, 116, 121]
  | _ => []
def origT (k : Int) : List UInt8 := if 1 ≤ k ∧ k ≤ 4 then origN k.toNat else []
/-- what a function of a number returns, for a number that is known -/
noncomputable def chkW (f : FuncId) (g : Nat → List UInt8) (n : Nat) : Bool := match callF CC 80 f [.int .i64 (n : Int)] [] with
  | some (.ret (.str s), _) => s == g n
  | _ => false
theorem of_chkW {f : FuncId} {g : Nat → List UInt8} {m : Nat} (h : (List.range m).all (chkW f g) = true) (n : Nat) (hn : n < m) : ∃ bx, callL CC f [.int .i64 (n : Int)] [] = some (.ret (.str (g n)), bx) := by
  have := List.all_eq_true.1 h n (List.mem_range.2 hn)
  unfold chkW at this
  split at this
  · rename_i s bx hs
    have e : s = g n := by simpa using this
    subst e
    exact ⟨_, callL_iff.2 ⟨80, hs⟩⟩
  · cases this
theorem all_word : (List.range 12).all (chkW 30 wordN) = true := by kernel_rfl
theorem all_rword : (List.range 12).all (chkW 35 wordN) = true := by kernel_rfl
theorem all_origin : (List.range 5).all (chkW 33 origN) = true := by kernel_rfl
theorem len_word (k : Int) : (wordT k).length ≤ 10 := by
  unfold wordT
  split
  · unfold wordN; split <;> decide
  · decide
theorem len_orig (k : Int) : (origT k).length ≤ 10 := by
  unfold origT
  split
  · unfold origN; split <;> decide
  · decide
theorem call_why_word (k : Int) : ∃ bx, callL CC 30 [.int .i64 k] [] = some (.ret (.str (wordT k)), bx) := by
  unfold wordT
  by_cases h : 1 ≤ k ∧ k ≤ 11
  · rw [if_pos h]
    obtain ⟨bx, hc⟩ := of_chkW all_word k.toNat (by omega)
    rw [show ((k.toNat : Nat) : Int) = k by omega] at hc
    exact ⟨bx, hc⟩
  rw [if_neg h]
  obtain ⟨tn, hen⟩ := ENs
  obtain ⟨tu, htu⟩ := VLs
  obtain ⟨tk, hky⟩ := KYs
  obtain ⟨tc, hcs⟩ := CSs
  have p1 : (k == 1) = false := by simp; omega
  have p2 : (k == 2) = false := by simp; omega
  have p3 : (k == 3) = false := by simp; omega
  have p4 : (k == 4) = false := by simp; omega
  have p5 : (k == 5) = false := by simp; omega
  have p6 : (k == 6) = false := by simp; omega
  have p7 : (k == 7) = false := by simp; omega
  have p8 : (k == 8) = false := by simp; omega
  have p9 : (k == 9) = false := by simp; omega
  have p10 : (k == 10) = false := by simp; omega
  have p11 : (k == 11) = false := by simp; omega
  rw [callL_enter (fn := Tryd.f30) (c := Tryd.f30.body.getD .skip) rfl rfl fat_why_word rfl ok_why_word (Nat.le_of_ble_eq_true rfl)]
  obtain ⟨ev, eo, so, co, ⟨hev, hco⟩, R⟩ := RULES CC; rw [← hev]
  simp only [fpart, part', Tryd.f30, Option.getD]
  simp (maxSteps := 5000000) only [SA, SB, SD, R, guardAt, binP, intP, indexAddrP, elemsOf, readCells, lenP, lenAt, resultsP, resultP, oneOr, reduceCtorEq, reduceIte, Nat.reduceEqDiff, Nat.reduceAdd, Nat.zero_add, Nat.reduceMul, Nat.reduceLT, Nat.reduceLeDiff, Int.reduceLT, Int.reduceNeg, Int.reduceLE, appendP, appendAt, letGo, setLoc, locVal, Int.reduceToNat, boxCells, und, TG, SE, SC, ENf, List.getElem?_concat_length, List.getElem?_cons_zero, List.getElem?_cons_succ, List.take_nil, unP, hen, htu, hky, hcs, loadR, loadP, storeR, storeK, storeCellsP, laid, lay, setBox, ss1, List.length_cons, List.length_nil, Nat.le_refl, Option.map_some, List.take_succ_cons, List.take_zero, List.drop_succ_cons, List.drop_zero, List.drop_nil, List.filter_nil, List.nil_append, List.cons_append, Int.reduceBEq, Int.reduceBNe, Int.reduceGT, Int.reduceGE, Bool.not_true, Bool.not_false, p1, p2, p3, p4, p5, p6, p7, p8, p9, p10, p11]
  exact ⟨_, rfl⟩
theorem call_why_origin (k : Int) : ∃ bx, callL CC 33 [.int .i64 k] [] = some (.ret (.str (origT k)), bx) := by
  unfold origT
  by_cases h : 1 ≤ k ∧ k ≤ 4
  · rw [if_pos h]
    obtain ⟨bx, hc⟩ := of_chkW all_origin k.toNat (by omega)
    rw [show ((k.toNat : Nat) : Int) = k by omega] at hc
    exact ⟨bx, hc⟩
  rw [if_neg h]
  obtain ⟨tn, hen⟩ := ENs
  obtain ⟨tu, htu⟩ := VLs
  obtain ⟨tk, hky⟩ := KYs
  obtain ⟨tc, hcs⟩ := CSs
  have p1 : (k == 1) = false := by simp; omega
  have p2 : (k == 2) = false := by simp; omega
  have p3 : (k == 3) = false := by simp; omega
  have p4 : (k == 4) = false := by simp; omega
  rw [callL_enter (fn := Tryd.f33) (c := Tryd.f33.body.getD .skip) rfl rfl fat_why_origin rfl ok_why_origin (Nat.le_of_ble_eq_true rfl)]
  obtain ⟨ev, eo, so, co, ⟨hev, hco⟩, R⟩ := RULES CC; rw [← hev]
  simp only [fpart, part', Tryd.f33, Option.getD]
  simp (maxSteps := 5000000) only [SA, SB, SD, R, guardAt, binP, intP, indexAddrP, elemsOf, readCells, lenP, lenAt, resultsP, resultP, oneOr, reduceCtorEq, reduceIte, Nat.reduceEqDiff, Nat.reduceAdd, Nat.zero_add, Nat.reduceMul, Nat.reduceLT, Nat.reduceLeDiff, Int.reduceLT, Int.reduceNeg, Int.reduceLE, appendP, appendAt, letGo, setLoc, locVal, Int.reduceToNat, boxCells, und, TG, SE, SC, ENf, List.getElem?_concat_length, List.getElem?_cons_zero, List.getElem?_cons_succ, List.take_nil, unP, hen, htu, hky, hcs, loadR, loadP, storeR, storeK, storeCellsP, laid, lay, setBox, ss1, List.length_cons, List.length_nil, Nat.le_refl, Option.map_some, List.take_succ_cons, List.take_zero, List.drop_succ_cons, List.drop_zero, List.drop_nil, List.filter_nil, List.nil_append, List.cons_append, Int.reduceBEq, Int.reduceBNe, Int.reduceGT, Int.reduceGE, Bool.not_true, Bool.not_false, p1, p2, p3, p4]
  exact ⟨_, rfl⟩
theorem bsW : buildSliceP CC 54 11 [(0, .str [114, 101, 112, 111, 114, 116]), (1, .str [101, 118, 101, 110, 116]), (2, .str [114, 117, 108, 101]), (3, .str [119, 114, 105, 116, 101]), (4, .str [98, 108, 111, 99, 107]), (5, .str [108, 111, 99, 107]), (6, .str [102, 114, 101, 101]), (7, .str [109, 111, 100, 101]), (8, .str [114, 101, 113, 117, 101, 115, 116]), (9, .str [115, 116, 97, 114, 116]), (10, .str [110, 111, 116, 105, 102, 121])] = some (.osl 9 [.str [114, 101, 112, 111, 114, 116], .str [101, 118, 101, 110, 116], .str [114, 117, 108, 101], .str [119, 114, 105, 116, 101], .str [98, 108, 111, 99, 107], .str [108, 111, 99, 107], .str [102, 114, 101, 101], .str [109, 111, 100, 101], .str [114, 101, 113, 117, 101, 115, 116], .str [115, 116, 97, 114, 116], .str [110, 111, 116, 105, 102, 121]]) := by kernel_rfl
theorem bsO : buildSliceP CC 54 4 [(0, .str [101, 110, 101, 114, 103, 121]), (1, .str [114, 117, 108, 101]), (2, .str [109, 101, 109, 98, 101, 114]), (3, .str [115, 97, 102, 101, 116, 121])] = some (.osl 9 [.str [101, 110, 101, 114, 103, 121], .str [114, 117, 108, 101], .str [109, 101, 109, 98, 101, 114], .str [115, 97, 102, 101, 116, 121]]) := by kernel_rfl
theorem call_R56_word (k : Int) : ∃ bx, callL CC 35 [.int .i64 k] [] = some (.ret (.str (wordT k)), bx) := by
  unfold wordT
  by_cases h : 1 ≤ k ∧ k ≤ 11
  · rw [if_pos h]
    obtain ⟨bx, hc⟩ := of_chkW all_rword k.toNat (by omega)
    rw [show ((k.toNat : Nat) : Int) = k by omega] at hc
    exact ⟨bx, hc⟩
  rw [if_neg h]
  obtain ⟨tn, hen⟩ := ENs
  obtain ⟨tu, htu⟩ := VLs
  obtain ⟨tk, hky⟩ := KYs
  obtain ⟨tc, hcs⟩ := CSs

  rw [callL_enter (fn := Tryd.f35) (c := Tryd.f35.body.getD .skip) rfl rfl fat_R56_word rfl ok_R56_word (Nat.le_of_ble_eq_true rfl)]
  by_cases c : k < 1
  · skip
    obtain ⟨ev, eo, so, co, ⟨hev, hco⟩, R⟩ := RULES CC; rw [← hev]
    simp only [fpart, part', Tryd.f35, Option.getD]
    simp (maxSteps := 5000000) only [SA, SB, SD, R, guardAt, binP, intP, indexAddrP, elemsOf, readCells, lenP, lenAt, resultsP, resultP, oneOr, reduceCtorEq, reduceIte, Nat.reduceEqDiff, Nat.reduceAdd, Nat.zero_add, Nat.reduceMul, Nat.reduceLT, Nat.reduceLeDiff, Int.reduceLT, Int.reduceNeg, Int.reduceLE, appendP, appendAt, letGo, setLoc, locVal, Int.reduceToNat, boxCells, und, TG, SE, SC, ENf, List.getElem?_concat_length, List.getElem?_cons_zero, List.getElem?_cons_succ, List.take_nil, unP, hen, htu, hky, hcs, loadR, loadP, storeR, storeK, storeCellsP, laid, lay, setBox, ss1, List.length_cons, List.length_nil, Nat.le_refl, Option.map_some, List.take_succ_cons, List.take_zero, List.drop_succ_cons, List.drop_zero, List.drop_nil, List.filter_nil, List.nil_append, List.cons_append, Int.reduceBEq, Int.reduceBNe, Int.reduceGT, Int.reduceGE, Bool.not_true, Bool.not_false, bsW, c]
    exact ⟨_, rfl⟩
  have c2 : k > ((11 : Nat) : Int) := by omega
  obtain ⟨ev, eo, so, co, ⟨hev, hco⟩, R⟩ := RULES CC; rw [← hev]
  simp only [fpart, part', Tryd.f35, Option.getD]
  simp (maxSteps := 5000000) only [SA, SB, SD, R, guardAt, binP, intP, indexAddrP, elemsOf, readCells, lenP, lenAt, resultsP, resultP, oneOr, reduceCtorEq, reduceIte, Nat.reduceEqDiff, Nat.reduceAdd, Nat.zero_add, Nat.reduceMul, Nat.reduceLT, Nat.reduceLeDiff, Int.reduceLT, Int.reduceNeg, Int.reduceLE, appendP, appendAt, letGo, setLoc, locVal, Int.reduceToNat, boxCells, und, TG, SE, SC, ENf, List.getElem?_concat_length, List.getElem?_cons_zero, List.getElem?_cons_succ, List.take_nil, unP, hen, htu, hky, hcs, loadR, loadP, storeR, storeK, storeCellsP, laid, lay, setBox, ss1, List.length_cons, List.length_nil, Nat.le_refl, Option.map_some, List.take_succ_cons, List.take_zero, List.drop_succ_cons, List.drop_zero, List.drop_nil, List.filter_nil, List.nil_append, List.cons_append, Int.reduceBEq, Int.reduceBNe, Int.reduceGT, Int.reduceGE, Bool.not_true, Bool.not_false, bsW, c, c2]
  exact ⟨_, rfl⟩
theorem op_why_word (k : Int) (bx) : callOp CC (callL CC) 30 [.int .i64 k] bx = some (.ret (.str (wordT k)), bx) := by
  obtain ⟨b, h⟩ := call_why_word k
  exact callOp_of rfl rfl h rfl
theorem op_why_origin (k : Int) (bx) : callOp CC (callL CC) 33 [.int .i64 k] bx = some (.ret (.str (origT k)), bx) := by
  obtain ⟨b, h⟩ := call_why_origin k
  exact callOp_of rfl rfl h rfl
theorem op_R56_word (k : Int) (bx) : callOp CC (callL CC) 35 [.int .i64 k] bx = some (.ret (.str (wordT k)), bx) := by
  obtain ⟨b, h⟩ := call_R56_word k
  exact callOp_of rfl rfl h rfl
/-- one text behind another -/
def cat (a b : List UInt8) : List UInt8 := a ++ b
theorem cat_len (a b : List UInt8) : (cat a b).length = a.length + b.length := List.length_append
theorem catA {a b : List UInt8} (h : a.length + b.length ≤ 2 ^ 60) : strP .add a b = some (.str (cat a b)) := if_pos h
/-- a key's name -/
def nmT (k : Ky) : List UInt8 := if k.2.2 = [] then cat (cat (Lib.itoa k.1) [46]) k.2.1 else cat (cat (cat (Lib.itoa k.1) [46]) k.2.1) (cat [46] k.2.2)
theorem neq_nil (s : List UInt8) : strP .neq s [] = some (.bool (!(s == []))) := rfl
theorem nmT_len (k : Ky) (h : inI k.1) : (nmT k).length ≤ 23 + k.2.1.length + k.2.2.length := by
  have := itoa_length h
  unfold nmT
  split <;> simp only [cat_len, List.length_singleton] <;> omega
theorem call_why_name (k : Ky) (h : inI k.1) (h1 : k.2.1.length ≤ 140737488351232) (h2 : k.2.2.length ≤ 140737488351232) : ∃ bx, callL CC 31 [kyV k] [] = some (.ret (.str (nmT k)), bx) := by
  have od := op_num_Digits k.1 h
  have hl := itoa_length h
  unfold nmT
  obtain ⟨d, c, a⟩ := k
  unfold kyV
  simp only at h1 h2 od hl ⊢
  generalize Lib.itoa d = s at *
  have s1 := catA (a := s) (b := [46]) (by simp only [List.length_singleton]; omega)
  have s2 := catA (a := cat s [46]) (b := c) (by simp only [cat_len, List.length_singleton]; omega)
  have s3 := catA (a := [46]) (b := a) (by simp only [cat_len, List.length_singleton]; omega)
  have s4 := catA (a := cat (cat s [46]) c) (b := cat [46] a) (by simp only [cat_len, List.length_singleton]; omega)
  have hn := neq_nil a
  obtain ⟨tn, hen⟩ := ENs
  obtain ⟨tu, htu⟩ := VLs
  obtain ⟨tk, hky⟩ := KYs
  obtain ⟨tc, hcs⟩ := CSs
  rw [callL_enter (fn := Tryd.f31) (c := Tryd.f31.body.getD .skip) rfl rfl fat_why_name rfl ok_why_name (Nat.le_of_ble_eq_true rfl)]
  by_cases ha : a = []
  · rw [if_pos ha]
    have hb : (a == []) = true := by simpa using ha
    rw [hb] at hn
    clear ha
    obtain ⟨ev, eo, so, co, ⟨hev, hco⟩, R⟩ := RULES CC; rw [← hev]
    rw [← hco] at od
    simp only [fpart, part', Tryd.f31, Option.getD]
    simp (maxSteps := 5000000) only [SA, SB, SD, R, guardAt, binP, intP, indexAddrP, elemsOf, readCells, lenP, lenAt, resultsP, resultP, oneOr, reduceCtorEq, reduceIte, Nat.reduceEqDiff, Nat.reduceAdd, Nat.zero_add, Nat.reduceMul, Nat.reduceLT, Nat.reduceLeDiff, Int.reduceLT, Int.reduceNeg, Int.reduceLE, appendP, appendAt, letGo, setLoc, locVal, Int.reduceToNat, boxCells, und, TG, SE, SC, ENf, List.getElem?_concat_length, List.getElem?_cons_zero, List.getElem?_cons_succ, List.take_nil, unP, hen, htu, hky, hcs, loadR, loadP, storeR, storeK, storeCellsP, laid, lay, setBox, ss1, List.length_cons, List.length_nil, Nat.le_refl, Option.map_some, List.take_succ_cons, List.take_zero, List.drop_succ_cons, List.drop_zero, List.drop_nil, List.filter_nil, List.nil_append, List.cons_append, Int.reduceBEq, Int.reduceBNe, Int.reduceGT, Int.reduceGE, Bool.not_true, Bool.not_false, od, s1, s2, s3, s4, hn]
    exact ⟨_, rfl⟩
  · rw [if_neg ha]
    have hb : (a == []) = false := by simpa using ha
    rw [hb] at hn
    obtain ⟨ev, eo, so, co, ⟨hev, hco⟩, R⟩ := RULES CC; rw [← hev]
    rw [← hco] at od
    simp only [fpart, part', Tryd.f31, Option.getD]
    simp (maxSteps := 5000000) only [SA, SB, SD, R, guardAt, binP, intP, indexAddrP, elemsOf, readCells, lenP, lenAt, resultsP, resultP, oneOr, reduceCtorEq, reduceIte, Nat.reduceEqDiff, Nat.reduceAdd, Nat.zero_add, Nat.reduceMul, Nat.reduceLT, Nat.reduceLeDiff, Int.reduceLT, Int.reduceNeg, Int.reduceLE, appendP, appendAt, letGo, setLoc, locVal, Int.reduceToNat, boxCells, und, TG, SE, SC, ENf, List.getElem?_concat_length, List.getElem?_cons_zero, List.getElem?_cons_succ, List.take_nil, unP, hen, htu, hky, hcs, loadR, loadP, storeR, storeK, storeCellsP, laid, lay, setBox, ss1, List.length_cons, List.length_nil, Nat.le_refl, Option.map_some, List.take_succ_cons, List.take_zero, List.drop_succ_cons, List.drop_zero, List.drop_nil, List.filter_nil, List.nil_append, List.cons_append, Int.reduceBEq, Int.reduceBNe, Int.reduceGT, Int.reduceGE, Bool.not_true, Bool.not_false, od, s1, s2, s3, s4, hn]
    exact ⟨_, rfl⟩
theorem op_why_name (k : Ky) (h : inI k.1) (h1 : k.2.1.length ≤ 140737488351232) (h2 : k.2.2.length ≤ 140737488351232) (bx) : callOp CC (callL CC) 31 [kyV k] bx = some (.ret (.str (nmT k)), bx) := by
  obtain ⟨b, hc⟩ := call_why_name k h h1 h2
  exact callOp_of rfl rfl hc rfl
theorem pr_len (v : Vl) (h : inI v.2.1) : (prV v).length ≤ 300 := by
  unfold prV
  have hi := itoa_length h
  split
  · simp
  · rename_i hc
    have hk := ck_len (v := v) (by omega)
    split
    · decide
    · split
      · split <;> decide
      · split
        · omega
        · split
          · simp only [List.length_cons]; omega
          · have := flat_le v.2.2
            have := quoteL_length v.2.2
            omega
def tick6 : List UInt8 := [32, 116, 105, 99, 107, 32]
def by4 : List UInt8 := [32, 98, 121, 32]
/-- the parts of a text -/
def tx0 (e : En) : List UInt8 := cat (cat (cat (cat (cat [35] (Lib.itoa e.no)) tick6) (Lib.itoa e.tick)) [32]) (wordT e.kind)
def tx1 (e : En) : List UInt8 := if e.key.1 = 0 then tx0 e else cat (tx0 e) (cat [32] (nmT e.key))
def tx2 (e : En) : List UInt8 := if prV e.val = [] ∨ prV e.val = sN then tx1 e else cat (tx1 e) (cat [32] (prV e.val))
def txT (e : En) : List UInt8 := if origT e.cause.1 = [] then tx2 e else cat (tx2 e) (cat (cat (cat by4 (origT e.cause.1)) [32]) e.cause.2.1)
/-- the strings of an entry are within the bounds of memory -/
def smE (e : En) : Prop := e.key.2.1.length ≤ 140737488351232 ∧ e.key.2.2.length ≤ 140737488351232 ∧ e.cause.2.1.length ≤ 140737488351232
theorem call_why_Text (e : En) (he : okEn e) (hs : smE e) : ∃ bx, callL CC 19 [enV e] [] = some (.ret (.str (txT e)), bx) := by
  obtain ⟨g1, g2, g3, g4, g5, g6, g7⟩ := he
  obtain ⟨s1, s2, s3⟩ := hs
  have o1 := op_num_Digits e.no g1
  have o2 := op_num_Digits e.tick g2
  have o3 := op_why_word e.kind
  have o4 := op_why_name e.key g4.1 s1 s2
  have o5 := op_value_Print e.val g5.2.1
  have o6 := op_why_origin e.cause.1
  have l1 := itoa_length g1
  have l2 := itoa_length g2
  have l3 := len_word e.kind
  have l4 := nmT_len e.key g4.1
  have l5 := pr_len e.val g5.2.1
  have l6 := len_orig e.cause.1
  unfold txT tx2 tx1 tx0
  obtain ⟨xno, xtk, xk, xkey, xval, xca, xpar⟩ := e
  obtain ⟨kd, kc, ka⟩ := xkey
  obtain ⟨vk, vn, vs⟩ := xval
  obtain ⟨ck, cn, cp⟩ := xca
  unfold enV
  unfold kyV at o4
  unfold vlV at o5
  simp only at o1 o2 o3 o4 o5 o6 l1 l2 l3 l4 l5 l6 s1 s2 s3 ⊢
  clear g1 g2 g3 g4 g5 g6 g7
  generalize Lib.itoa xno = d1 at *
  generalize Lib.itoa xtk = d2 at *
  generalize wordT xk = w at *
  generalize nmT (kd, kc, ka) = nm at *
  generalize prV (vk, vn, vs) = pv at *
  generalize origT ck = og at *
  have t6 : tick6.length = 6 := rfl
  have b4 : by4.length = 4 := rfl
  have c1 := catA (a := [35]) (b := d1) (by simp only [List.length_singleton]; omega)
  have c2 := catA (a := cat [35] d1) (b := tick6) (by simp only [cat_len, List.length_singleton]; omega)
  have c3 := catA (a := cat (cat [35] d1) tick6) (b := d2) (by simp only [cat_len, List.length_singleton]; omega)
  have c4 := catA (a := cat (cat (cat [35] d1) tick6) d2) (b := [32]) (by simp only [cat_len, List.length_singleton]; omega)
  have c5 := catA (a := cat (cat (cat (cat [35] d1) tick6) d2) [32]) (b := w) (by simp only [cat_len, List.length_singleton]; omega)
  obtain ⟨t0, ht0⟩ : ∃ t0, t0 = cat (cat (cat (cat (cat [35] d1) tick6) d2) [32]) w := ⟨_, rfl⟩
  have lt0 : t0.length ≤ 100 := by rw [ht0]; simp only [cat_len, List.length_singleton]; omega
  rw [← ht0] at c5 ⊢
  have c6 := catA (a := [32]) (b := nm) (by simp only [List.length_singleton]; omega)
  have c7 := catA (a := t0) (b := cat [32] nm) (by simp only [cat_len, List.length_singleton]; omega)
  have c8 := catA (a := [32]) (b := pv) (by simp only [List.length_singleton]; omega)
  have c10 := catA (a := by4) (b := og) (by omega)
  have c11 := catA (a := cat by4 og) (b := [32]) (by simp only [cat_len, List.length_singleton]; omega)
  have c12 := catA (a := cat (cat by4 og) [32]) (b := cn) (by simp only [cat_len, List.length_singleton]; omega)
  have n1 := neq_nil pv
  have n2 : strP .neq pv [110, 111, 110, 101] = some (.bool (!(pv == sN))) := rfl
  have n3 := neq_nil og
  unfold tick6 at c2 c3 c4 c5
  unfold by4 at c10 c11 c12 ⊢
  obtain ⟨tn, hen⟩ := ENs
  obtain ⟨tu, htu⟩ := VLs
  obtain ⟨tk, hky⟩ := KYs
  obtain ⟨tc, hcs⟩ := CSs
  rw [callL_enter (fn := Tryd.f19) (c := Tryd.f19.body.getD .skip) rfl rfl fat_why_Text rfl ok_why_Text (Nat.le_of_ble_eq_true rfl)]
  obtain ⟨t1, ht1⟩ : ∃ t1, t1 = (if kd = 0 then t0 else cat t0 (cat [32] nm)) := ⟨_, rfl⟩
  have lt1 : t1.length ≤ 100 + (1 + nm.length) := by rw [ht1]; split <;> (try simp only [cat_len, List.length_singleton]) <;> omega
  rw [← ht1]
  have c9 := catA (a := t1) (b := cat [32] pv) (by simp only [cat_len, List.length_singleton]; omega)
  obtain ⟨t2, ht2⟩ : ∃ t2, t2 = (if pv = [] ∨ pv = sN then t1 else cat t1 (cat [32] pv)) := ⟨_, rfl⟩
  have lt2 : t2.length ≤ 101 + nm.length + (1 + pv.length) := by rw [ht2]; split <;> (try simp only [cat_len, List.length_singleton]) <;> omega
  rw [← ht2]
  have c13 := catA (a := t2) (b := cat (cat (cat [32, 98, 121, 32] og) [32]) cn) (by simp only [cat_len, List.length_singleton, List.length_cons, List.length_nil]; omega)
  by_cases hk : kd = 0
  · rw [if_pos hk] at ht1
    have z1 : (kd != 0) = false := by simpa using hk
    subst ht1
    by_cases hv : pv = []
    · have q1 : (pv == []) = true := by simpa using hv
      rw [q1] at n1
      rw [if_pos (.inl hv)] at ht2
      subst ht2
      by_cases ho : og = []
      · rw [if_pos ho]
        have q3 : (og == []) = true := by simpa using ho
        rw [q3] at n3
        obtain ⟨ev, eo, so, co, ⟨hev, hco⟩, R⟩ := RULES CC; rw [← hev]
        rw [← hco] at o1 o2 o3 o4 o5 o6
        simp only [fpart, part', Tryd.f19, Option.getD]
        simp (maxSteps := 5000000) only [SA, SB, SD, R, guardAt, binP, intP, indexAddrP, elemsOf, readCells, lenP, lenAt, resultsP, resultP, oneOr, reduceCtorEq, reduceIte, Nat.reduceEqDiff, Nat.reduceAdd, Nat.zero_add, Nat.reduceMul, Nat.reduceLT, Nat.reduceLeDiff, Int.reduceLT, Int.reduceNeg, Int.reduceLE, appendP, appendAt, letGo, setLoc, locVal, Int.reduceToNat, boxCells, und, TG, SE, SC, ENf, List.getElem?_concat_length, List.getElem?_cons_zero, List.getElem?_cons_succ, List.take_nil, unP, hen, htu, hky, hcs, loadR, loadP, storeR, storeK, storeCellsP, laid, lay, setBox, ss1, List.length_cons, List.length_nil, Nat.le_refl, Option.map_some, List.take_succ_cons, List.take_zero, List.drop_succ_cons, List.drop_zero, List.drop_nil, List.filter_nil, List.nil_append, List.cons_append, Int.reduceBEq, Int.reduceBNe, Int.reduceGT, Int.reduceGE, Bool.not_true, Bool.not_false, o1, o2, o3, o4, o5, o6, c1, c2, c3, c4, c5, c6, c7, c8, c9, c10, c11, c12, c13, n1, n2, n3, z1]
        exact ⟨_, rfl⟩
      · rw [if_neg ho]
        have q3 : (og == []) = false := by simpa using ho
        rw [q3] at n3
        obtain ⟨ev, eo, so, co, ⟨hev, hco⟩, R⟩ := RULES CC; rw [← hev]
        rw [← hco] at o1 o2 o3 o4 o5 o6
        simp only [fpart, part', Tryd.f19, Option.getD]
        simp (maxSteps := 5000000) only [SA, SB, SD, R, guardAt, binP, intP, indexAddrP, elemsOf, readCells, lenP, lenAt, resultsP, resultP, oneOr, reduceCtorEq, reduceIte, Nat.reduceEqDiff, Nat.reduceAdd, Nat.zero_add, Nat.reduceMul, Nat.reduceLT, Nat.reduceLeDiff, Int.reduceLT, Int.reduceNeg, Int.reduceLE, appendP, appendAt, letGo, setLoc, locVal, Int.reduceToNat, boxCells, und, TG, SE, SC, ENf, List.getElem?_concat_length, List.getElem?_cons_zero, List.getElem?_cons_succ, List.take_nil, unP, hen, htu, hky, hcs, loadR, loadP, storeR, storeK, storeCellsP, laid, lay, setBox, ss1, List.length_cons, List.length_nil, Nat.le_refl, Option.map_some, List.take_succ_cons, List.take_zero, List.drop_succ_cons, List.drop_zero, List.drop_nil, List.filter_nil, List.nil_append, List.cons_append, Int.reduceBEq, Int.reduceBNe, Int.reduceGT, Int.reduceGE, Bool.not_true, Bool.not_false, o1, o2, o3, o4, o5, o6, c1, c2, c3, c4, c5, c6, c7, c8, c9, c10, c11, c12, c13, n1, n2, n3, z1]
        exact ⟨_, rfl⟩
    have q1 : (pv == []) = false := by simpa using hv
    rw [q1] at n1
    by_cases hw : pv = sN
    · have q2 : (pv == sN) = true := by simpa using hw
      rw [q2] at n2
      rw [if_pos (.inr hw)] at ht2
      subst ht2
      by_cases ho : og = []
      · rw [if_pos ho]
        have q3 : (og == []) = true := by simpa using ho
        rw [q3] at n3
        obtain ⟨ev, eo, so, co, ⟨hev, hco⟩, R⟩ := RULES CC; rw [← hev]
        rw [← hco] at o1 o2 o3 o4 o5 o6
        simp only [fpart, part', Tryd.f19, Option.getD]
        simp (maxSteps := 5000000) only [SA, SB, SD, R, guardAt, binP, intP, indexAddrP, elemsOf, readCells, lenP, lenAt, resultsP, resultP, oneOr, reduceCtorEq, reduceIte, Nat.reduceEqDiff, Nat.reduceAdd, Nat.zero_add, Nat.reduceMul, Nat.reduceLT, Nat.reduceLeDiff, Int.reduceLT, Int.reduceNeg, Int.reduceLE, appendP, appendAt, letGo, setLoc, locVal, Int.reduceToNat, boxCells, und, TG, SE, SC, ENf, List.getElem?_concat_length, List.getElem?_cons_zero, List.getElem?_cons_succ, List.take_nil, unP, hen, htu, hky, hcs, loadR, loadP, storeR, storeK, storeCellsP, laid, lay, setBox, ss1, List.length_cons, List.length_nil, Nat.le_refl, Option.map_some, List.take_succ_cons, List.take_zero, List.drop_succ_cons, List.drop_zero, List.drop_nil, List.filter_nil, List.nil_append, List.cons_append, Int.reduceBEq, Int.reduceBNe, Int.reduceGT, Int.reduceGE, Bool.not_true, Bool.not_false, o1, o2, o3, o4, o5, o6, c1, c2, c3, c4, c5, c6, c7, c8, c9, c10, c11, c12, c13, n1, n2, n3, z1]
        exact ⟨_, rfl⟩
      · rw [if_neg ho]
        have q3 : (og == []) = false := by simpa using ho
        rw [q3] at n3
        obtain ⟨ev, eo, so, co, ⟨hev, hco⟩, R⟩ := RULES CC; rw [← hev]
        rw [← hco] at o1 o2 o3 o4 o5 o6
        simp only [fpart, part', Tryd.f19, Option.getD]
        simp (maxSteps := 5000000) only [SA, SB, SD, R, guardAt, binP, intP, indexAddrP, elemsOf, readCells, lenP, lenAt, resultsP, resultP, oneOr, reduceCtorEq, reduceIte, Nat.reduceEqDiff, Nat.reduceAdd, Nat.zero_add, Nat.reduceMul, Nat.reduceLT, Nat.reduceLeDiff, Int.reduceLT, Int.reduceNeg, Int.reduceLE, appendP, appendAt, letGo, setLoc, locVal, Int.reduceToNat, boxCells, und, TG, SE, SC, ENf, List.getElem?_concat_length, List.getElem?_cons_zero, List.getElem?_cons_succ, List.take_nil, unP, hen, htu, hky, hcs, loadR, loadP, storeR, storeK, storeCellsP, laid, lay, setBox, ss1, List.length_cons, List.length_nil, Nat.le_refl, Option.map_some, List.take_succ_cons, List.take_zero, List.drop_succ_cons, List.drop_zero, List.drop_nil, List.filter_nil, List.nil_append, List.cons_append, Int.reduceBEq, Int.reduceBNe, Int.reduceGT, Int.reduceGE, Bool.not_true, Bool.not_false, o1, o2, o3, o4, o5, o6, c1, c2, c3, c4, c5, c6, c7, c8, c9, c10, c11, c12, c13, n1, n2, n3, z1]
        exact ⟨_, rfl⟩
    · have q2 : (pv == sN) = false := by simpa using hw
      rw [q2] at n2
      rw [if_neg (by rintro (h | h); exact hv h; exact hw h)] at ht2
      rw [← ht2] at c9
      by_cases ho : og = []
      · rw [if_pos ho]
        have q3 : (og == []) = true := by simpa using ho
        rw [q3] at n3
        obtain ⟨ev, eo, so, co, ⟨hev, hco⟩, R⟩ := RULES CC; rw [← hev]
        rw [← hco] at o1 o2 o3 o4 o5 o6
        simp only [fpart, part', Tryd.f19, Option.getD]
        simp (maxSteps := 5000000) only [SA, SB, SD, R, guardAt, binP, intP, indexAddrP, elemsOf, readCells, lenP, lenAt, resultsP, resultP, oneOr, reduceCtorEq, reduceIte, Nat.reduceEqDiff, Nat.reduceAdd, Nat.zero_add, Nat.reduceMul, Nat.reduceLT, Nat.reduceLeDiff, Int.reduceLT, Int.reduceNeg, Int.reduceLE, appendP, appendAt, letGo, setLoc, locVal, Int.reduceToNat, boxCells, und, TG, SE, SC, ENf, List.getElem?_concat_length, List.getElem?_cons_zero, List.getElem?_cons_succ, List.take_nil, unP, hen, htu, hky, hcs, loadR, loadP, storeR, storeK, storeCellsP, laid, lay, setBox, ss1, List.length_cons, List.length_nil, Nat.le_refl, Option.map_some, List.take_succ_cons, List.take_zero, List.drop_succ_cons, List.drop_zero, List.drop_nil, List.filter_nil, List.nil_append, List.cons_append, Int.reduceBEq, Int.reduceBNe, Int.reduceGT, Int.reduceGE, Bool.not_true, Bool.not_false, o1, o2, o3, o4, o5, o6, c1, c2, c3, c4, c5, c6, c7, c8, c9, c10, c11, c12, c13, n1, n2, n3, z1]
        exact ⟨_, rfl⟩
      · rw [if_neg ho]
        have q3 : (og == []) = false := by simpa using ho
        rw [q3] at n3
        obtain ⟨ev, eo, so, co, ⟨hev, hco⟩, R⟩ := RULES CC; rw [← hev]
        rw [← hco] at o1 o2 o3 o4 o5 o6
        simp only [fpart, part', Tryd.f19, Option.getD]
        simp (maxSteps := 5000000) only [SA, SB, SD, R, guardAt, binP, intP, indexAddrP, elemsOf, readCells, lenP, lenAt, resultsP, resultP, oneOr, reduceCtorEq, reduceIte, Nat.reduceEqDiff, Nat.reduceAdd, Nat.zero_add, Nat.reduceMul, Nat.reduceLT, Nat.reduceLeDiff, Int.reduceLT, Int.reduceNeg, Int.reduceLE, appendP, appendAt, letGo, setLoc, locVal, Int.reduceToNat, boxCells, und, TG, SE, SC, ENf, List.getElem?_concat_length, List.getElem?_cons_zero, List.getElem?_cons_succ, List.take_nil, unP, hen, htu, hky, hcs, loadR, loadP, storeR, storeK, storeCellsP, laid, lay, setBox, ss1, List.length_cons, List.length_nil, Nat.le_refl, Option.map_some, List.take_succ_cons, List.take_zero, List.drop_succ_cons, List.drop_zero, List.drop_nil, List.filter_nil, List.nil_append, List.cons_append, Int.reduceBEq, Int.reduceBNe, Int.reduceGT, Int.reduceGE, Bool.not_true, Bool.not_false, o1, o2, o3, o4, o5, o6, c1, c2, c3, c4, c5, c6, c7, c8, c9, c10, c11, c12, c13, n1, n2, n3, z1]
        exact ⟨_, rfl⟩
  · rw [if_neg hk] at ht1
    have z1 : (kd != 0) = true := by simpa using hk
    rw [← ht1] at c7
    by_cases hv : pv = []
    · have q1 : (pv == []) = true := by simpa using hv
      rw [q1] at n1
      rw [if_pos (.inl hv)] at ht2
      subst ht2
      by_cases ho : og = []
      · rw [if_pos ho]
        have q3 : (og == []) = true := by simpa using ho
        rw [q3] at n3
        obtain ⟨ev, eo, so, co, ⟨hev, hco⟩, R⟩ := RULES CC; rw [← hev]
        rw [← hco] at o1 o2 o3 o4 o5 o6
        simp only [fpart, part', Tryd.f19, Option.getD]
        simp (maxSteps := 5000000) only [SA, SB, SD, R, guardAt, binP, intP, indexAddrP, elemsOf, readCells, lenP, lenAt, resultsP, resultP, oneOr, reduceCtorEq, reduceIte, Nat.reduceEqDiff, Nat.reduceAdd, Nat.zero_add, Nat.reduceMul, Nat.reduceLT, Nat.reduceLeDiff, Int.reduceLT, Int.reduceNeg, Int.reduceLE, appendP, appendAt, letGo, setLoc, locVal, Int.reduceToNat, boxCells, und, TG, SE, SC, ENf, List.getElem?_concat_length, List.getElem?_cons_zero, List.getElem?_cons_succ, List.take_nil, unP, hen, htu, hky, hcs, loadR, loadP, storeR, storeK, storeCellsP, laid, lay, setBox, ss1, List.length_cons, List.length_nil, Nat.le_refl, Option.map_some, List.take_succ_cons, List.take_zero, List.drop_succ_cons, List.drop_zero, List.drop_nil, List.filter_nil, List.nil_append, List.cons_append, Int.reduceBEq, Int.reduceBNe, Int.reduceGT, Int.reduceGE, Bool.not_true, Bool.not_false, o1, o2, o3, o4, o5, o6, c1, c2, c3, c4, c5, c6, c7, c8, c9, c10, c11, c12, c13, n1, n2, n3, z1]
        exact ⟨_, rfl⟩
      · rw [if_neg ho]
        have q3 : (og == []) = false := by simpa using ho
        rw [q3] at n3
        obtain ⟨ev, eo, so, co, ⟨hev, hco⟩, R⟩ := RULES CC; rw [← hev]
        rw [← hco] at o1 o2 o3 o4 o5 o6
        simp only [fpart, part', Tryd.f19, Option.getD]
        simp (maxSteps := 5000000) only [SA, SB, SD, R, guardAt, binP, intP, indexAddrP, elemsOf, readCells, lenP, lenAt, resultsP, resultP, oneOr, reduceCtorEq, reduceIte, Nat.reduceEqDiff, Nat.reduceAdd, Nat.zero_add, Nat.reduceMul, Nat.reduceLT, Nat.reduceLeDiff, Int.reduceLT, Int.reduceNeg, Int.reduceLE, appendP, appendAt, letGo, setLoc, locVal, Int.reduceToNat, boxCells, und, TG, SE, SC, ENf, List.getElem?_concat_length, List.getElem?_cons_zero, List.getElem?_cons_succ, List.take_nil, unP, hen, htu, hky, hcs, loadR, loadP, storeR, storeK, storeCellsP, laid, lay, setBox, ss1, List.length_cons, List.length_nil, Nat.le_refl, Option.map_some, List.take_succ_cons, List.take_zero, List.drop_succ_cons, List.drop_zero, List.drop_nil, List.filter_nil, List.nil_append, List.cons_append, Int.reduceBEq, Int.reduceBNe, Int.reduceGT, Int.reduceGE, Bool.not_true, Bool.not_false, o1, o2, o3, o4, o5, o6, c1, c2, c3, c4, c5, c6, c7, c8, c9, c10, c11, c12, c13, n1, n2, n3, z1]
        exact ⟨_, rfl⟩
    have q1 : (pv == []) = false := by simpa using hv
    rw [q1] at n1
    by_cases hw : pv = sN
    · have q2 : (pv == sN) = true := by simpa using hw
      rw [q2] at n2
      rw [if_pos (.inr hw)] at ht2
      subst ht2
      by_cases ho : og = []
      · rw [if_pos ho]
        have q3 : (og == []) = true := by simpa using ho
        rw [q3] at n3
        obtain ⟨ev, eo, so, co, ⟨hev, hco⟩, R⟩ := RULES CC; rw [← hev]
        rw [← hco] at o1 o2 o3 o4 o5 o6
        simp only [fpart, part', Tryd.f19, Option.getD]
        simp (maxSteps := 5000000) only [SA, SB, SD, R, guardAt, binP, intP, indexAddrP, elemsOf, readCells, lenP, lenAt, resultsP, resultP, oneOr, reduceCtorEq, reduceIte, Nat.reduceEqDiff, Nat.reduceAdd, Nat.zero_add, Nat.reduceMul, Nat.reduceLT, Nat.reduceLeDiff, Int.reduceLT, Int.reduceNeg, Int.reduceLE, appendP, appendAt, letGo, setLoc, locVal, Int.reduceToNat, boxCells, und, TG, SE, SC, ENf, List.getElem?_concat_length, List.getElem?_cons_zero, List.getElem?_cons_succ, List.take_nil, unP, hen, htu, hky, hcs, loadR, loadP, storeR, storeK, storeCellsP, laid, lay, setBox, ss1, List.length_cons, List.length_nil, Nat.le_refl, Option.map_some, List.take_succ_cons, List.take_zero, List.drop_succ_cons, List.drop_zero, List.drop_nil, List.filter_nil, List.nil_append, List.cons_append, Int.reduceBEq, Int.reduceBNe, Int.reduceGT, Int.reduceGE, Bool.not_true, Bool.not_false, o1, o2, o3, o4, o5, o6, c1, c2, c3, c4, c5, c6, c7, c8, c9, c10, c11, c12, c13, n1, n2, n3, z1]
        exact ⟨_, rfl⟩
      · rw [if_neg ho]
        have q3 : (og == []) = false := by simpa using ho
        rw [q3] at n3
        obtain ⟨ev, eo, so, co, ⟨hev, hco⟩, R⟩ := RULES CC; rw [← hev]
        rw [← hco] at o1 o2 o3 o4 o5 o6
        simp only [fpart, part', Tryd.f19, Option.getD]
        simp (maxSteps := 5000000) only [SA, SB, SD, R, guardAt, binP, intP, indexAddrP, elemsOf, readCells, lenP, lenAt, resultsP, resultP, oneOr, reduceCtorEq, reduceIte, Nat.reduceEqDiff, Nat.reduceAdd, Nat.zero_add, Nat.reduceMul, Nat.reduceLT, Nat.reduceLeDiff, Int.reduceLT, Int.reduceNeg, Int.reduceLE, appendP, appendAt, letGo, setLoc, locVal, Int.reduceToNat, boxCells, und, TG, SE, SC, ENf, List.getElem?_concat_length, List.getElem?_cons_zero, List.getElem?_cons_succ, List.take_nil, unP, hen, htu, hky, hcs, loadR, loadP, storeR, storeK, storeCellsP, laid, lay, setBox, ss1, List.length_cons, List.length_nil, Nat.le_refl, Option.map_some, List.take_succ_cons, List.take_zero, List.drop_succ_cons, List.drop_zero, List.drop_nil, List.filter_nil, List.nil_append, List.cons_append, Int.reduceBEq, Int.reduceBNe, Int.reduceGT, Int.reduceGE, Bool.not_true, Bool.not_false, o1, o2, o3, o4, o5, o6, c1, c2, c3, c4, c5, c6, c7, c8, c9, c10, c11, c12, c13, n1, n2, n3, z1]
        exact ⟨_, rfl⟩
    · have q2 : (pv == sN) = false := by simpa using hw
      rw [q2] at n2
      rw [if_neg (by rintro (h | h); exact hv h; exact hw h)] at ht2
      rw [← ht2] at c9
      by_cases ho : og = []
      · rw [if_pos ho]
        have q3 : (og == []) = true := by simpa using ho
        rw [q3] at n3
        obtain ⟨ev, eo, so, co, ⟨hev, hco⟩, R⟩ := RULES CC; rw [← hev]
        rw [← hco] at o1 o2 o3 o4 o5 o6
        simp only [fpart, part', Tryd.f19, Option.getD]
        simp (maxSteps := 5000000) only [SA, SB, SD, R, guardAt, binP, intP, indexAddrP, elemsOf, readCells, lenP, lenAt, resultsP, resultP, oneOr, reduceCtorEq, reduceIte, Nat.reduceEqDiff, Nat.reduceAdd, Nat.zero_add, Nat.reduceMul, Nat.reduceLT, Nat.reduceLeDiff, Int.reduceLT, Int.reduceNeg, Int.reduceLE, appendP, appendAt, letGo, setLoc, locVal, Int.reduceToNat, boxCells, und, TG, SE, SC, ENf, List.getElem?_concat_length, List.getElem?_cons_zero, List.getElem?_cons_succ, List.take_nil, unP, hen, htu, hky, hcs, loadR, loadP, storeR, storeK, storeCellsP, laid, lay, setBox, ss1, List.length_cons, List.length_nil, Nat.le_refl, Option.map_some, List.take_succ_cons, List.take_zero, List.drop_succ_cons, List.drop_zero, List.drop_nil, List.filter_nil, List.nil_append, List.cons_append, Int.reduceBEq, Int.reduceBNe, Int.reduceGT, Int.reduceGE, Bool.not_true, Bool.not_false, o1, o2, o3, o4, o5, o6, c1, c2, c3, c4, c5, c6, c7, c8, c9, c10, c11, c12, c13, n1, n2, n3, z1]
        exact ⟨_, rfl⟩
      · rw [if_neg ho]
        have q3 : (og == []) = false := by simpa using ho
        rw [q3] at n3
        obtain ⟨ev, eo, so, co, ⟨hev, hco⟩, R⟩ := RULES CC; rw [← hev]
        rw [← hco] at o1 o2 o3 o4 o5 o6
        simp only [fpart, part', Tryd.f19, Option.getD]
        simp (maxSteps := 5000000) only [SA, SB, SD, R, guardAt, binP, intP, indexAddrP, elemsOf, readCells, lenP, lenAt, resultsP, resultP, oneOr, reduceCtorEq, reduceIte, Nat.reduceEqDiff, Nat.reduceAdd, Nat.zero_add, Nat.reduceMul, Nat.reduceLT, Nat.reduceLeDiff, Int.reduceLT, Int.reduceNeg, Int.reduceLE, appendP, appendAt, letGo, setLoc, locVal, Int.reduceToNat, boxCells, und, TG, SE, SC, ENf, List.getElem?_concat_length, List.getElem?_cons_zero, List.getElem?_cons_succ, List.take_nil, unP, hen, htu, hky, hcs, loadR, loadP, storeR, storeK, storeCellsP, laid, lay, setBox, ss1, List.length_cons, List.length_nil, Nat.le_refl, Option.map_some, List.take_succ_cons, List.take_zero, List.drop_succ_cons, List.drop_zero, List.drop_nil, List.filter_nil, List.nil_append, List.cons_append, Int.reduceBEq, Int.reduceBNe, Int.reduceGT, Int.reduceGE, Bool.not_true, Bool.not_false, o1, o2, o3, o4, o5, o6, c1, c2, c3, c4, c5, c6, c7, c8, c9, c10, c11, c12, c13, n1, n2, n3, z1]
        exact ⟨_, rfl⟩
end Go.HH
