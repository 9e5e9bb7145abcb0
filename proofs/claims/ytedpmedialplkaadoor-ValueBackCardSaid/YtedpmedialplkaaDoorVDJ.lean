/-
  Joined: VD, VD2.
-/
import Derived.Test.YtedpmedialplkaaDoorVQJ
namespace Go.HH
open Go Go.Proofs
set_option maxRecDepth 100000
set_option linter.unusedSimpArgs false
set_option linter.unusedVariables false
def satI (n : Int) : Int := if n > 1099511627776 then 1099511627776 else if n < -1099511627776 then -1099511627776 else n
theorem satI_le (n : Int) : -1099511627776 ≤ satI n ∧ satI n ≤ 1099511627776 := by unfold satI; split <;> (try split) <;> omega
theorem ok_num_Sat : fnOK CC Tryd.f69 (Tryd.f69.body.getD .skip) = true := by kernel_rfl
theorem fat_num_Sat : CC.P.funcs[69]? = some Tryd.f69 := by kernel_rfl
theorem call_num_Sat (n : Int) : callL CC 69 [.int .i64 n] [] = some (.ret (.int .i64 (satI n)), []) := by
  rw [callL_enter (fn := Tryd.f69) (c := Tryd.f69.body.getD .skip) rfl rfl fat_num_Sat rfl ok_num_Sat (Nat.le_of_ble_eq_true rfl)]
  obtain ⟨ev, eo, so, co, ⟨hev, hco⟩, R⟩ := RULES CC; rw [← hev]
  simp only [fpart, part', Tryd.f69, Option.getD]
  have h : min (max n (-1099511627776)) 1099511627776 = satI n := by
    unfold satI
    rw [Int.min_def, Int.max_def]
    split <;> split <;> (try split) <;> omega
  generalize (-1099511627776 : Int) = lo at *
  generalize (1099511627776 : Int) = hi at *
  simp (maxSteps := 5000000) only [SA, SB, SD, R, guardAt, binP, intP, indexAddrP, elemsOf, readCells, lenP, lenAt, resultsP, resultP, oneOr, reduceCtorEq, reduceIte, Nat.reduceEqDiff, Nat.reduceAdd, Nat.zero_add, Nat.reduceMul, Nat.reduceLT, Nat.reduceLeDiff, Int.reduceLT, Int.reduceNeg, Int.reduceLE, appendP, appendAt, letGo, setLoc, locVal, Int.reduceToNat, boxCells, und, TG]
  rw [maxP2]
  generalize max n lo = m at *
  simp (maxSteps := 5000000) only [SA, SB, SD, R, guardAt, binP, intP, indexAddrP, elemsOf, readCells, lenP, lenAt, resultsP, resultP, oneOr, reduceCtorEq, reduceIte, Nat.reduceEqDiff, Nat.reduceAdd, Nat.zero_add, Nat.reduceMul, Nat.reduceLT, Nat.reduceLeDiff, Int.reduceLT, Int.reduceNeg, Int.reduceLE, appendP, appendAt, letGo, setLoc, locVal, Int.reduceToNat, boxCells, und, TG]
  rw [minP2, h]
  simp (maxSteps := 5000000) only [SA, SB, SD, R, guardAt, binP, intP, indexAddrP, elemsOf, readCells, lenP, lenAt, resultsP, resultP, oneOr, reduceCtorEq, reduceIte, Nat.reduceEqDiff, Nat.reduceAdd, Nat.zero_add, Nat.reduceMul, Nat.reduceLT, Nat.reduceLeDiff, Int.reduceLT, Int.reduceNeg, Int.reduceLE, appendP, appendAt, letGo, setLoc, locVal, Int.reduceToNat, boxCells, und, TG]
theorem op_num_Sat (n : Int) (bx) : callOp CC (callL CC) 69 [.int .i64 n] bx = some (.ret (.int .i64 (satI n)), bx) := callOp_of rfl (by simp only [SA, Bool.and_true]) (call_num_Sat n) rfl
theorem ok_num_Digits : fnOK CC Tryd.f58 (Tryd.f58.body.getD .skip) = true := by kernel_rfl
theorem fat_num_Digits : CC.P.funcs[58]? = some Tryd.f58 := by kernel_rfl
theorem ok_R01_Digits : fnOK CC Tryd.f60 (Tryd.f60.body.getD .skip) = true := by kernel_rfl
theorem fat_R01_Digits : CC.P.funcs[60]? = some Tryd.f60 := by kernel_rfl
theorem itoa_length {n : Int} (h : inI n) : (Lib.itoa n).length ≤ 21 := by
  have key : ∀ u : Nat, u ≤ 9223372036854775808 → (Lib.decDigits u).length ≤ 20 := by
    intro u hu
    rw [Lib.decDigits_length]
    rcases Nat.lt_or_ge 20 (Lib.nDigits u) with h | h
    · exfalso
      have hp : 10 ^ 20 ≤ 10 ^ (Lib.nDigits u - 1) := Nat.pow_le_pow_right (by omega) (by omega)
      have : 10 ^ (Lib.nDigits u - 1) ≤ u := by
        have gen : ∀ v : Nat, 1 ≤ v → 10 ^ (Lib.nDigits v - 1) ≤ v := by
          intro v
          induction v using Nat.strongRecOn with
          | _ v ih =>
            intro hv
            by_cases hs : v < 10
            · rw [Lib.nDigits_small hs]; simpa using hv
            · rw [Lib.nDigits_big hs, Nat.add_sub_cancel]
              have h1 := ih (v / 10) (by omega) (by omega)
              have h2 : Lib.nDigits (v / 10) = Lib.nDigits (v / 10) - 1 + 1 := by have := Lib.nDigits_pos (v / 10); omega
              rw [h2, Nat.pow_succ]
              omega
        apply gen
        rcases Nat.eq_zero_or_pos u with hz | hz
        · subst hz; rw [Lib.nDigits_small (by omega)] at h; omega
        · exact hz
      omega
    · exact h
  unfold Lib.itoa
  split
  · have := key n.natAbs (by omega)
    simp only [List.length_cons]
    omega
  · have := key n.toNat (by omega)
    omega
theorem call_num_Digits (n : Int) (h : inI n) : callL CC 58 [.int .i64 n] [] = some (.ret (.str (Lib.itoa n)), []) := by
  rw [callL_enter (fn := Tryd.f58) (c := Tryd.f58.body.getD .skip) rfl rfl fat_num_Digits rfl ok_num_Digits (Nat.le_of_ble_eq_true rfl)]
  obtain ⟨ev, eo, so, co, ⟨hev, hco⟩, R⟩ := RULES CC; rw [← hev]; have o_strconv_Itoa := @op_strconv_Itoa; rw [← hco] at o_strconv_Itoa
  have h1 := o_strconv_Itoa n h
  simp only [fpart, part', Tryd.f58, Option.getD]
  simp (maxSteps := 5000000) only [SA, SB, SD, R, guardAt, binP, intP, indexAddrP, elemsOf, readCells, lenP, lenAt, resultsP, resultP, oneOr, reduceCtorEq, reduceIte, Nat.reduceEqDiff, Nat.reduceAdd, Nat.zero_add, Nat.reduceMul, Nat.reduceLT, Nat.reduceLeDiff, Int.reduceLT, Int.reduceNeg, Int.reduceLE, appendP, appendAt, letGo, setLoc, locVal, Int.reduceToNat, boxCells, und, TG, h1]
theorem op_num_Digits (n : Int) (h : inI n) (bx) : callOp CC (callL CC) 58 [.int .i64 n] bx = some (.ret (.str (Lib.itoa n)), bx) := callOp_of rfl (by simp only [SA, Bool.and_true]) (call_num_Digits n h) rfl
theorem itoa_nonneg {n : Int} (h : ¬ n < 0) : Lib.itoa n = Lib.decDigits n.toNat := by unfold Lib.itoa; rw [if_neg h]
theorem itoa_neg {n : Int} (h : n < 0) : Lib.itoa n = 45 :: Lib.decDigits n.natAbs := by unfold Lib.itoa; rw [if_pos h]
theorem itoa_digit {n : Int} (h0 : 0 ≤ n) (h : n ≤ 9) : Lib.itoa n = [UInt8.ofNat (48 + n.toNat)] := by rw [itoa_nonneg (by omega), Lib.decDigits_one (by omega)]
theorem itoa_big {n : Int} (h : n > 9) : Lib.itoa n = Lib.itoa (n.tdiv 10) ++ Lib.itoa (n.tmod 10) := by
  have h1 : n.tdiv 10 = ((n.toNat / 10 : Nat) : Int) := by rw [Int.tdiv_eq_ediv_of_nonneg (by omega)]; omega
  have h2 : n.tmod 10 = ((n.toNat % 10 : Nat) : Int) := by rw [Int.tmod_eq_emod_of_nonneg (by omega)]; omega
  rw [h1, h2, itoa_nonneg (by omega), itoa_nonneg (by omega), itoa_digit (by omega) (by omega), Int.toNat_natCast, Int.toNat_natCast, Lib.decDigits, dif_neg (by omega)]
theorem itoa_small_neg {n : Int} (h : n < 0) (h2 : n > -10) : Lib.itoa n = [45] ++ Lib.itoa (0 - n) := by
  rw [itoa_neg h, itoa_nonneg (by omega), show n.natAbs = (0 - n).toNat from by omega]
  rfl
theorem itoa_big_neg {n : Int} (h2 : ¬ n > -10) : Lib.itoa n = Lib.itoa (n.tdiv 10) ++ Lib.itoa (0 - n.tmod 10) := by
  have h1 : n.tdiv 10 = -((n.natAbs / 10 : Nat) : Int) := by
    have : n = -((n.natAbs : Nat) : Int) := by omega
    rw [this, Int.neg_tdiv, Int.natAbs_neg, Int.natAbs_natCast]
    congr 1
  have h3 : n.tmod 10 = -((n.natAbs % 10 : Nat) : Int) := by
    have : n = -((n.natAbs : Nat) : Int) := by omega
    rw [this, Int.neg_tmod, Int.natAbs_neg, Int.natAbs_natCast]
    congr 1
  have hb : ¬ n.natAbs < 10 := by omega
  rw [h1, h3, itoa_neg (by omega), itoa_neg (by omega), itoa_digit (by omega) (by omega), Lib.decDigits, dif_neg hb]
  rw [show (-((n.natAbs / 10 : Nat) : Int)).natAbs = n.natAbs / 10 from by omega, show (0 - -((n.natAbs % 10 : Nat) : Int)).toNat = n.natAbs % 10 from by omega]
  rfl
theorem str_add {a b : List UInt8} (h : a.length + b.length ≤ 1000000) : strP .add a b = some (.str (a ++ b)) := by
  unfold strP maxStr
  simp only
  rw [if_pos (by omega)]
theorem conv_bys (l : List UInt8) : convP CC 62 9 (.sl (bys l)) = some (.str l) := by
  unfold convP
  simp only [TG, elemsOf, bytesOf_bys, Option.map_some]
theorem bys_one {n : Int} (h : 0 ≤ n ∧ n < 256) : [PV.int .u8 n] = bys [UInt8.ofNat n.toNat] := by
  unfold bys
  simp only [List.map_cons, List.map_nil]
  congr 2
  have : n.toNat < 256 := by omega
  simp [UInt8.toNat_ofNat']
  omega
theorem call_R01_Digits (m : Nat) : ∀ n : Int, inI n → n.natAbs + (if n < 0 then 1 else 0) ≤ m → callL CC 60 [.int .i64 n] [] = some (.ret (.str (Lib.itoa n)), []) := by
  induction m with
  | zero =>
    intro n hn hm
    have : n = 0 := by split at hm <;> omega
    subst this
    rw [callL_enter (fn := Tryd.f60) (c := Tryd.f60.body.getD .skip) rfl rfl fat_R01_Digits rfl ok_R01_Digits (Nat.le_of_ble_eq_true rfl)]
    obtain ⟨ev, eo, so, co, ⟨hev, hco⟩, R⟩ := RULES CC; rw [← hev]
    have e := itoa_digit (n := 0) (by omega) (by omega)
    have hc := conv_i_u8 48 ⟨by omega, by omega⟩
    have hb := conv_bys [48]
    have hw := wrap_i64 (n := 48) ⟨by omega, by omega⟩
    have h1 : [PV.int .u8 48] = bys [48] := rfl
    rw [e]
    simp only [fpart, part', Tryd.f60, Option.getD]
    simp (maxSteps := 5000000) only [SA, SB, SD, R, guardAt, binP, intP, indexAddrP, elemsOf, readCells, lenP, lenAt, resultsP, resultP, oneOr, reduceCtorEq, reduceIte, Nat.reduceEqDiff, Nat.reduceAdd, Nat.zero_add, Nat.reduceMul, Nat.reduceLT, Nat.reduceLeDiff, Int.reduceLT, Int.reduceNeg, Int.reduceLE, appendP, appendAt, letGo, setLoc, locVal, Int.reduceToNat, boxCells, und, TG, Int.reduceGT, Int.reduceAdd, hc, hw, bs_u8, h1, hb]
    rfl
  | succ m ih =>
    intro n hn hm
    have op := fun (k : Int) (h : inI k) (hk : k.natAbs + (if k < 0 then 1 else 0) ≤ m) (bx) => callOp_of (C := CC) (f := 60) (bx := bx) rfl (by simp only [SA, Bool.and_true]) (ih k h hk) rfl
    rw [callL_enter (fn := Tryd.f60) (c := Tryd.f60.body.getD .skip) rfl rfl fat_R01_Digits rfl ok_R01_Digits (Nat.le_of_ble_eq_true rfl)]
    by_cases c1 : n < 0
    · rw [if_pos c1] at hm
      by_cases c2 : n > -10
      · have o1 := op (-n) ⟨by omega, by omega⟩ (by rw [if_neg (by omega)]; omega)
        obtain ⟨ev, eo, so, co, ⟨hev, hco⟩, R⟩ := RULES CC; rw [← hev]
        rw [← hco] at o1
        have w := wrap_i64 (n := -n) ⟨by omega, by omega⟩
        have hl := itoa_length (n := -n) ⟨by omega, by omega⟩
        have e := itoa_small_neg c1 c2
        rw [Int.zero_sub] at e
        have sa := str_add (a := [45]) (b := Lib.itoa (-n)) (by simp; omega)
        rw [e]
        simp only [fpart, part', Tryd.f60, Option.getD]
        simp (maxSteps := 5000000) only [SA, SB, SD, R, guardAt, binP, intP, indexAddrP, elemsOf, readCells, lenP, lenAt, resultsP, resultP, oneOr, reduceCtorEq, reduceIte, Nat.reduceEqDiff, Nat.reduceAdd, Nat.zero_add, Nat.reduceMul, Nat.reduceLT, Nat.reduceLeDiff, Int.reduceLT, Int.reduceNeg, Int.reduceLE, appendP, appendAt, letGo, setLoc, locVal, Int.reduceToNat, boxCells, und, TG, unP, c1, c2, w, o1, sa, Int.zero_sub]
      · have ha : (n.tdiv 10).natAbs = n.natAbs / 10 := by rw [Int.natAbs_tdiv]; rfl
        have hb : n.tmod 10 = -((n.natAbs % 10 : Nat) : Int) := by
          have : n = -((n.natAbs : Nat) : Int) := by omega
          rw [this, Int.neg_tmod, Int.natAbs_neg, Int.natAbs_natCast]
          congr 1
        have hd : n.tdiv 10 ≤ 0 := by
          have h := Int.tdiv_nonneg (a := -n) (b := 10) (by omega) (by omega)
          rw [Int.neg_tdiv] at h
          omega
        have o1 := op (n.tdiv 10) ⟨by omega, by omega⟩ (by split <;> omega)
        have o2 := op (0 - n.tmod 10) ⟨by omega, by omega⟩ (by rw [if_neg (by omega)]; omega)
        obtain ⟨ev, eo, so, co, ⟨hev, hco⟩, R⟩ := RULES CC; rw [← hev]
        rw [← hco] at o1 o2
        have w := wrap_i64 (n := n.tdiv 10) ⟨by omega, by omega⟩
        have w2 := wrap_i64 (n := 0 - n.tmod 10) ⟨by omega, by omega⟩
        have hl1 := itoa_length (n := n.tdiv 10) ⟨by omega, by omega⟩
        have hl2 := itoa_length (n := 0 - n.tmod 10) ⟨by omega, by omega⟩
        have e := itoa_big_neg c2
        have sa := str_add (a := Lib.itoa (n.tdiv 10)) (b := Lib.itoa (0 - n.tmod 10)) (by omega)
        rw [e]
        simp only [fpart, part', Tryd.f60, Option.getD]
        simp (maxSteps := 5000000) only [SA, SB, SD, R, guardAt, binP, intP, indexAddrP, elemsOf, readCells, lenP, lenAt, resultsP, resultP, oneOr, reduceCtorEq, reduceIte, Nat.reduceEqDiff, Nat.reduceAdd, Nat.zero_add, Nat.reduceMul, Nat.reduceLT, Nat.reduceLeDiff, Int.reduceLT, Int.reduceNeg, Int.reduceLE, appendP, appendAt, letGo, setLoc, locVal, Int.reduceToNat, boxCells, und, TG, unP, c1, c2, w, w2, o1, o2, sa, Int.reduceEq]
    · rw [if_neg c1] at hm
      by_cases c2 : n > 9
      · have h1 : n.tdiv 10 = n / 10 := Int.tdiv_eq_ediv_of_nonneg (by omega)
        have h2 : n.tmod 10 = n % 10 := Int.tmod_eq_emod_of_nonneg (by omega)
        have o1 := op (n.tdiv 10) ⟨by omega, by omega⟩ (by rw [if_neg (by omega)]; omega)
        have o2 := op (n.tmod 10) ⟨by omega, by omega⟩ (by rw [if_neg (by omega)]; omega)
        obtain ⟨ev, eo, so, co, ⟨hev, hco⟩, R⟩ := RULES CC; rw [← hev]
        rw [← hco] at o1 o2
        have w := wrap_i64 (n := n.tdiv 10) ⟨by omega, by omega⟩
        have w2 := wrap_i64 (n := n.tmod 10) ⟨by omega, by omega⟩
        have hl1 := itoa_length (n := n.tdiv 10) ⟨by omega, by omega⟩
        have hl2 := itoa_length (n := n.tmod 10) ⟨by omega, by omega⟩
        have e := itoa_big c2
        have sa := str_add (a := Lib.itoa (n.tdiv 10)) (b := Lib.itoa (n.tmod 10)) (by omega)
        rw [e]
        simp only [fpart, part', Tryd.f60, Option.getD]
        simp (maxSteps := 5000000) only [SA, SB, SD, R, guardAt, binP, intP, indexAddrP, elemsOf, readCells, lenP, lenAt, resultsP, resultP, oneOr, reduceCtorEq, reduceIte, Nat.reduceEqDiff, Nat.reduceAdd, Nat.zero_add, Nat.reduceMul, Nat.reduceLT, Nat.reduceLeDiff, Int.reduceLT, Int.reduceNeg, Int.reduceLE, appendP, appendAt, letGo, setLoc, locVal, Int.reduceToNat, boxCells, und, TG, unP, c1, c2, w, w2, o1, o2, sa, Int.reduceEq]
      · obtain ⟨ev, eo, so, co, ⟨hev, hco⟩, R⟩ := RULES CC; rw [← hev]
        have e := itoa_digit (n := n) (by omega) (by omega)
        have hw := wrap_i64 (n := 48 + n) ⟨by omega, by omega⟩
        have hc := conv_i_u8 (48 + n) ⟨by omega, by omega⟩
        have h1 := bys_one (n := 48 + n) ⟨by omega, by omega⟩
        have hb := conv_bys [UInt8.ofNat (48 + n).toNat]
        have h48 : (48 + n).toNat = 48 + n.toNat := by omega
        rw [h48] at h1 hb
        rw [e]
        simp only [fpart, part', Tryd.f60, Option.getD]
        simp (maxSteps := 5000000) only [SA, SB, SD, R, guardAt, binP, intP, indexAddrP, elemsOf, readCells, lenP, lenAt, resultsP, resultP, oneOr, reduceCtorEq, reduceIte, Nat.reduceEqDiff, Nat.reduceAdd, Nat.zero_add, Nat.reduceMul, Nat.reduceLT, Nat.reduceLeDiff, Int.reduceLT, Int.reduceNeg, Int.reduceLE, appendP, appendAt, letGo, setLoc, locVal, Int.reduceToNat, boxCells, und, TG, c1, c2, hw, hc, bs_u8, h1, hb, h48]
theorem op_R01_Digits (n : Int) (h : inI n) (bx) : callOp CC (callL CC) 60 [.int .i64 n] bx = some (.ret (.str (Lib.itoa n)), bx) := callOp_of rfl (by simp only [SA, Bool.and_true]) (call_R01_Digits _ n h (Nat.le_refl _)) rfl
theorem ix_str0 (s : List UInt8) (b : UInt8) (h : s[0]? = some b) : indexV CC 9 (.str s) (.int .i64 0) = some (.int .u8 (b.toNat : Int)) := ix_str s 0 b h
def isD (c : UInt8) : Bool := decide (48 ≤ c.toNat) && decide (c.toNat ≤ 57)
/-- the digits of the program's loop -/
def pl : List UInt8 → Nat → Int → Option Int
  | [], _, n => some n
  | c :: r, i, n => if isD c then pl r (i + 1) (10 * n + ((c.toNat : Int) - 48)) else if i > 0 ∨ c.toNat ≠ 45 then none else pl r (i + 1) n
/-- the digits of the reference's loop -/
def pr : List UInt8 → Int → Option Int
  | [], n => some n
  | c :: r, n => if isD c then pr r (10 * n + ((c.toNat : Int) - 48)) else none
theorem pl_pr : ∀ (l : List UInt8) (i : Nat) (n : Int), 0 < i → pl l i n = pr l n
  | [], _, _, _ => rfl
  | c :: r, i, n, h => by
    unfold pl pr
    rw [pl_pr r (i + 1) _ (by omega), if_pos (Or.inl h)]
theorem pow_step {n : Int} {i : Nat} {d : Int} (h0 : 0 ≤ n) (h : n < 10 ^ i) (hd : 0 ≤ d ∧ d ≤ 9) : 0 ≤ 10 * n + d ∧ 10 * n + d < 10 ^ (i + 1) := by
  have : (10 : Int) ^ (i + 1) = 10 * 10 ^ i := by rw [Int.pow_succ]; omega
  rw [this]
  omega
theorem pow_cap {n : Int} {i : Nat} (hi : i ≤ 14) (h : n < 10 ^ i) : n < 100000000000000 := by
  have h1 : (10 : Int) ^ i ≤ 10 ^ 14 := by
    have := Nat.pow_le_pow_right (n := 10) (by omega) hi
    exact_mod_cast this
  have h2 : (10 : Int) ^ 14 = 100000000000000 := by decide
  omega
theorem ok_num_Parse : fnOK CC Tryd.f55 (Tryd.f55.body.getD .skip) = true := by kernel_rfl
theorem fat_num_Parse : CC.P.funcs[55]? = some Tryd.f55 := by kernel_rfl
theorem ok_R01_Parse : fnOK CC Tryd.f71 (Tryd.f71.body.getD .skip) = true := by kernel_rfl
theorem fat_R01_Parse : CC.P.funcs[71]? = some Tryd.f71 := by kernel_rfl
/-- what a loop over digits comes to -/
def PP (s : List UInt8) (f : PV) (o : Option Int) (r : Option (Ex × St)) : Prop := match o with
  | some n => 0 ≤ n ∧ n < 100000000000000 ∧ ∃ e, r = some (.exit 0, ⟨e, []⟩) ∧ getT e 0 = .str s ∧ getT e 4 = .int .i64 n ∧ (f ≠ .top → getT e 5 = f)
  | none => ∃ e, r = some (.ret, ⟨e, []⟩) ∧ getT e 2 = .int .i64 0 ∧ getT e 3 = .bool false
theorem loop_num_Parse (L : Code) (hL : L = fpart Tryd.f55 [1,1,1,0,1,0]) (s : List UInt8) (hs : s.length ≤ 14) : ∀ (k i : Nat) (e : List PV) (n : Int), i + k = s.length → 0 ≤ n → n < 10 ^ i → getT e 0 = .str s → getT e 4 = .int .i64 n → getT e 16 = .int .i64 s.length → getT e 17 = .int .i64 i →
    PP s .top (pl (s.drop i) i n) (evL CC L ⟨e, []⟩) := by
  intro k
  induction k with
  | zero =>
    intro i e n hk hn0 hn h0 h4 h16 h17
    rw [evL_at (fpart Tryd.f55 [1,1,1,0,1,0,0]) hL]
    have hi : ¬ ((i : Int) < (s.length : Int)) := by omega
    have hd : s.drop i = [] := List.drop_eq_nil_of_le (by omega)
    have hc := pow_cap (by omega) hn
    obtain ⟨ev, eo, so, co, ⟨hev, hco⟩, R⟩ := RULES CC; rw [← hev]
    rw [hd]
    simp only [fpart, part', Tryd.f55, Option.getD]
    simp (maxSteps := 5000000) only [SA, SB, SD, R, guardAt, binP, intP, indexAddrP, elemsOf, readCells, lenP, lenAt, resultsP, resultP, oneOr, reduceCtorEq, reduceIte, Nat.reduceEqDiff, Nat.reduceAdd, Nat.zero_add, Nat.reduceMul, Nat.reduceLT, Nat.reduceLeDiff, Int.reduceLT, Int.reduceNeg, Int.reduceLE, appendP, appendAt, letGo, setLoc, locVal, Int.reduceToNat, boxCells, und, TG, h16, h17, hi]
    exact ⟨hn0, hc, _, rfl, by simp (maxSteps := 5000000) only [SA, SB, SD, R, guardAt, binP, intP, indexAddrP, elemsOf, readCells, lenP, lenAt, resultsP, resultP, oneOr, reduceCtorEq, reduceIte, Nat.reduceEqDiff, Nat.reduceAdd, Nat.zero_add, Nat.reduceMul, Nat.reduceLT, Nat.reduceLeDiff, Int.reduceLT, Int.reduceNeg, Int.reduceLE, appendP, appendAt, letGo, setLoc, locVal, Int.reduceToNat, boxCells, und, h0], by simp (maxSteps := 5000000) only [SA, SB, SD, R, guardAt, binP, intP, indexAddrP, elemsOf, readCells, lenP, lenAt, resultsP, resultP, oneOr, reduceCtorEq, reduceIte, Nat.reduceEqDiff, Nat.reduceAdd, Nat.zero_add, Nat.reduceMul, Nat.reduceLT, Nat.reduceLeDiff, Int.reduceLT, Int.reduceNeg, Int.reduceLE, appendP, appendAt, letGo, setLoc, locVal, Int.reduceToNat, boxCells, und, h4], fun h => absurd rfl h⟩
  | succ k ih =>
    intro i e n hk hn0 hn h0 h4 h16 h17
    rw [evL_at (fpart Tryd.f55 [1,1,1,0,1,0,0]) hL]
    have hi : (i : Int) < (s.length : Int) := by omega
    have hx : s[i]? = some s[i] := by simp
    have hdr : s.drop i = s[i] :: s.drop (i + 1) := List.drop_eq_getElem_cons (by omega)
    rw [hdr]
    generalize s[i] = c at hx ⊢
    have hix := ix_str s i c hx
    have hc := pow_cap (by omega) hn
    have hw := wrap_i64 (n := (i : Int) + 1) ⟨by omega, by omega⟩
    have h256 := UInt8.toNat_lt c
    have hpl : pl (c :: s.drop (i + 1)) i n = if isD c then pl (s.drop (i + 1)) (i + 1) (10 * n + ((c.toNat : Int) - 48)) else if i > 0 ∨ c.toNat ≠ 45 then none else pl (s.drop (i + 1)) (i + 1) n := rfl
    rw [hpl]
    unfold isD
    generalize c.toNat = v at *
    obtain ⟨ev, eo, so, co, ⟨hev, hco⟩, R⟩ := RULES CC; rw [← hev]
    rw [← hev] at ih
    simp only [fpart, part', Tryd.f55, Option.getD]
    by_cases c1 : (v : Int) ≥ 48
    · by_cases c2 : (v : Int) ≤ 57
      · have w1 := wrap_i64 (n := 10 * n) ⟨by omega, by omega⟩
        have w2 : IntKind.wrap .u8 ((v : Int) - 48) = (v : Int) - 48 := by simp [IntKind.wrap, IntKind.bits, IntKind.signed]; omega
        have w3 := conv_u8_i ((v : Int) - 48) ⟨by omega, by omega⟩
        have w4 := wrap_i64 (n := 10 * n + ((v : Int) - 48)) ⟨by omega, by omega⟩
        have d1 : 48 ≤ v := by omega
        have d2 : v ≤ 57 := by omega
        have hp := pow_step hn0 hn (d := (v : Int) - 48) ⟨by omega, by omega⟩
        simp (maxSteps := 5000000) only [SA, SB, SD, R, guardAt, binP, intP, indexAddrP, elemsOf, readCells, lenP, lenAt, resultsP, resultP, oneOr, reduceCtorEq, reduceIte, Nat.reduceEqDiff, Nat.reduceAdd, Nat.zero_add, Nat.reduceMul, Nat.reduceLT, Nat.reduceLeDiff, Int.reduceLT, Int.reduceNeg, Int.reduceLE, appendP, appendAt, letGo, setLoc, locVal, Int.reduceToNat, boxCells, und, TG, h0, h4, h16, h17, hi, hw, hix, c1, c2, w1, w2, w3, w4, d1, d2]
        exact ih (i + 1) _ _ (by omega) hp.1 hp.2 (by simp (maxSteps := 5000000) only [SA, SB, SD, R, guardAt, binP, intP, indexAddrP, elemsOf, readCells, lenP, lenAt, resultsP, resultP, oneOr, reduceCtorEq, reduceIte, Nat.reduceEqDiff, Nat.reduceAdd, Nat.zero_add, Nat.reduceMul, Nat.reduceLT, Nat.reduceLeDiff, Int.reduceLT, Int.reduceNeg, Int.reduceLE, appendP, appendAt, letGo, setLoc, locVal, Int.reduceToNat, boxCells, und, h0]) (by simp (maxSteps := 5000000) only [SA, SB, SD, R, guardAt, binP, intP, indexAddrP, elemsOf, readCells, lenP, lenAt, resultsP, resultP, oneOr, reduceCtorEq, reduceIte, Nat.reduceEqDiff, Nat.reduceAdd, Nat.zero_add, Nat.reduceMul, Nat.reduceLT, Nat.reduceLeDiff, Int.reduceLT, Int.reduceNeg, Int.reduceLE, appendP, appendAt, letGo, setLoc, locVal, Int.reduceToNat, boxCells, und]) (by simp (maxSteps := 5000000) only [SA, SB, SD, R, guardAt, binP, intP, indexAddrP, elemsOf, readCells, lenP, lenAt, resultsP, resultP, oneOr, reduceCtorEq, reduceIte, Nat.reduceEqDiff, Nat.reduceAdd, Nat.zero_add, Nat.reduceMul, Nat.reduceLT, Nat.reduceLeDiff, Int.reduceLT, Int.reduceNeg, Int.reduceLE, appendP, appendAt, letGo, setLoc, locVal, Int.reduceToNat, boxCells, und, h16]) (by simp (maxSteps := 5000000) only [SA, SB, SD, R, guardAt, binP, intP, indexAddrP, elemsOf, readCells, lenP, lenAt, resultsP, resultP, oneOr, reduceCtorEq, reduceIte, Nat.reduceEqDiff, Nat.reduceAdd, Nat.zero_add, Nat.reduceMul, Nat.reduceLT, Nat.reduceLeDiff, Int.reduceLT, Int.reduceNeg, Int.reduceLE, appendP, appendAt, letGo, setLoc, locVal, Int.reduceToNat, boxCells, und]; rfl)
      · have d2 : ¬ v ≤ 57 := by omega
        have c4 : ((v : Int) != 45) = true := by simp; omega
        have d4 : v ≠ 45 := by omega
        by_cases c3 : (i : Int) > 0
        · have d3 : i > 0 := by omega
          simp (maxSteps := 5000000) only [SA, SB, SD, R, guardAt, binP, intP, indexAddrP, elemsOf, readCells, lenP, lenAt, resultsP, resultP, oneOr, reduceCtorEq, reduceIte, Nat.reduceEqDiff, Nat.reduceAdd, Nat.zero_add, Nat.reduceMul, Nat.reduceLT, Nat.reduceLeDiff, Int.reduceLT, Int.reduceNeg, Int.reduceLE, appendP, appendAt, letGo, setLoc, locVal, Int.reduceToNat, boxCells, und, TG, h0, h4, h16, h17, hi, hix, c1, c2, c3, d2, d3, Bool.and_false]
          exact ⟨_, rfl, by simp (maxSteps := 5000000) only [SA, SB, SD, R, guardAt, binP, intP, indexAddrP, elemsOf, readCells, lenP, lenAt, resultsP, resultP, oneOr, reduceCtorEq, reduceIte, Nat.reduceEqDiff, Nat.reduceAdd, Nat.zero_add, Nat.reduceMul, Nat.reduceLT, Nat.reduceLeDiff, Int.reduceLT, Int.reduceNeg, Int.reduceLE, appendP, appendAt, letGo, setLoc, locVal, Int.reduceToNat, boxCells, und], by simp (maxSteps := 5000000) only [SA, SB, SD, R, guardAt, binP, intP, indexAddrP, elemsOf, readCells, lenP, lenAt, resultsP, resultP, oneOr, reduceCtorEq, reduceIte, Nat.reduceEqDiff, Nat.reduceAdd, Nat.zero_add, Nat.reduceMul, Nat.reduceLT, Nat.reduceLeDiff, Int.reduceLT, Int.reduceNeg, Int.reduceLE, appendP, appendAt, letGo, setLoc, locVal, Int.reduceToNat, boxCells, und]⟩
        · simp (maxSteps := 5000000) only [SA, SB, SD, R, guardAt, binP, intP, indexAddrP, elemsOf, readCells, lenP, lenAt, resultsP, resultP, oneOr, reduceCtorEq, reduceIte, Nat.reduceEqDiff, Nat.reduceAdd, Nat.zero_add, Nat.reduceMul, Nat.reduceLT, Nat.reduceLeDiff, Int.reduceLT, Int.reduceNeg, Int.reduceLE, appendP, appendAt, letGo, setLoc, locVal, Int.reduceToNat, boxCells, und, TG, h0, h4, h16, h17, hi, hix, c1, c2, c3, c4, d2, d4, Bool.and_false]
          exact ⟨_, rfl, by simp (maxSteps := 5000000) only [SA, SB, SD, R, guardAt, binP, intP, indexAddrP, elemsOf, readCells, lenP, lenAt, resultsP, resultP, oneOr, reduceCtorEq, reduceIte, Nat.reduceEqDiff, Nat.reduceAdd, Nat.zero_add, Nat.reduceMul, Nat.reduceLT, Nat.reduceLeDiff, Int.reduceLT, Int.reduceNeg, Int.reduceLE, appendP, appendAt, letGo, setLoc, locVal, Int.reduceToNat, boxCells, und], by simp (maxSteps := 5000000) only [SA, SB, SD, R, guardAt, binP, intP, indexAddrP, elemsOf, readCells, lenP, lenAt, resultsP, resultP, oneOr, reduceCtorEq, reduceIte, Nat.reduceEqDiff, Nat.reduceAdd, Nat.zero_add, Nat.reduceMul, Nat.reduceLT, Nat.reduceLeDiff, Int.reduceLT, Int.reduceNeg, Int.reduceLE, appendP, appendAt, letGo, setLoc, locVal, Int.reduceToNat, boxCells, und]⟩
    · have d1 : ¬ 48 ≤ v := by omega
      by_cases c3 : (i : Int) > 0
      · have d3 : i > 0 := by omega
        simp (maxSteps := 5000000) only [SA, SB, SD, R, guardAt, binP, intP, indexAddrP, elemsOf, readCells, lenP, lenAt, resultsP, resultP, oneOr, reduceCtorEq, reduceIte, Nat.reduceEqDiff, Nat.reduceAdd, Nat.zero_add, Nat.reduceMul, Nat.reduceLT, Nat.reduceLeDiff, Int.reduceLT, Int.reduceNeg, Int.reduceLE, appendP, appendAt, letGo, setLoc, locVal, Int.reduceToNat, boxCells, und, TG, h0, h4, h16, h17, hi, hix, c1, c3, d1, d3, Bool.false_and]
        exact ⟨_, rfl, by simp (maxSteps := 5000000) only [SA, SB, SD, R, guardAt, binP, intP, indexAddrP, elemsOf, readCells, lenP, lenAt, resultsP, resultP, oneOr, reduceCtorEq, reduceIte, Nat.reduceEqDiff, Nat.reduceAdd, Nat.zero_add, Nat.reduceMul, Nat.reduceLT, Nat.reduceLeDiff, Int.reduceLT, Int.reduceNeg, Int.reduceLE, appendP, appendAt, letGo, setLoc, locVal, Int.reduceToNat, boxCells, und], by simp (maxSteps := 5000000) only [SA, SB, SD, R, guardAt, binP, intP, indexAddrP, elemsOf, readCells, lenP, lenAt, resultsP, resultP, oneOr, reduceCtorEq, reduceIte, Nat.reduceEqDiff, Nat.reduceAdd, Nat.zero_add, Nat.reduceMul, Nat.reduceLT, Nat.reduceLeDiff, Int.reduceLT, Int.reduceNeg, Int.reduceLE, appendP, appendAt, letGo, setLoc, locVal, Int.reduceToNat, boxCells, und]⟩
      · have d3 : ¬ i > 0 := by omega
        by_cases c4 : v = 45
        · subst c4
          have c4 : (((45 : Nat) : Int) != 45) = false := rfl
          have hp : n < 10 ^ (i + 1) := by
            have h1 : (10 : Int) ^ (i + 1) = 10 * 10 ^ i := by rw [Int.pow_succ]; omega
            omega
          simp (maxSteps := 5000000) only [SA, SB, SD, R, guardAt, binP, intP, indexAddrP, elemsOf, readCells, lenP, lenAt, resultsP, resultP, oneOr, reduceCtorEq, reduceIte, Nat.reduceEqDiff, Nat.reduceAdd, Nat.zero_add, Nat.reduceMul, Nat.reduceLT, Nat.reduceLeDiff, Int.reduceLT, Int.reduceNeg, Int.reduceLE, appendP, appendAt, letGo, setLoc, locVal, Int.reduceToNat, boxCells, und, TG, h0, h4, h16, h17, hi, hw, hix, c1, c3, c4, d1, d3, Bool.false_and]
          exact ih (i + 1) _ n (by omega) hn0 hp (by simp (maxSteps := 5000000) only [SA, SB, SD, R, guardAt, binP, intP, indexAddrP, elemsOf, readCells, lenP, lenAt, resultsP, resultP, oneOr, reduceCtorEq, reduceIte, Nat.reduceEqDiff, Nat.reduceAdd, Nat.zero_add, Nat.reduceMul, Nat.reduceLT, Nat.reduceLeDiff, Int.reduceLT, Int.reduceNeg, Int.reduceLE, appendP, appendAt, letGo, setLoc, locVal, Int.reduceToNat, boxCells, und, h0]) (by simp (maxSteps := 5000000) only [SA, SB, SD, R, guardAt, binP, intP, indexAddrP, elemsOf, readCells, lenP, lenAt, resultsP, resultP, oneOr, reduceCtorEq, reduceIte, Nat.reduceEqDiff, Nat.reduceAdd, Nat.zero_add, Nat.reduceMul, Nat.reduceLT, Nat.reduceLeDiff, Int.reduceLT, Int.reduceNeg, Int.reduceLE, appendP, appendAt, letGo, setLoc, locVal, Int.reduceToNat, boxCells, und, h4]) (by simp (maxSteps := 5000000) only [SA, SB, SD, R, guardAt, binP, intP, indexAddrP, elemsOf, readCells, lenP, lenAt, resultsP, resultP, oneOr, reduceCtorEq, reduceIte, Nat.reduceEqDiff, Nat.reduceAdd, Nat.zero_add, Nat.reduceMul, Nat.reduceLT, Nat.reduceLeDiff, Int.reduceLT, Int.reduceNeg, Int.reduceLE, appendP, appendAt, letGo, setLoc, locVal, Int.reduceToNat, boxCells, und, h16]) (by simp (maxSteps := 5000000) only [SA, SB, SD, R, guardAt, binP, intP, indexAddrP, elemsOf, readCells, lenP, lenAt, resultsP, resultP, oneOr, reduceCtorEq, reduceIte, Nat.reduceEqDiff, Nat.reduceAdd, Nat.zero_add, Nat.reduceMul, Nat.reduceLT, Nat.reduceLeDiff, Int.reduceLT, Int.reduceNeg, Int.reduceLE, appendP, appendAt, letGo, setLoc, locVal, Int.reduceToNat, boxCells, und]; rfl)
        · have c4' : ((v : Int) != 45) = true := by simp; omega
          simp (maxSteps := 5000000) only [SA, SB, SD, R, guardAt, binP, intP, indexAddrP, elemsOf, readCells, lenP, lenAt, resultsP, resultP, oneOr, reduceCtorEq, reduceIte, Nat.reduceEqDiff, Nat.reduceAdd, Nat.zero_add, Nat.reduceMul, Nat.reduceLT, Nat.reduceLeDiff, Int.reduceLT, Int.reduceNeg, Int.reduceLE, appendP, appendAt, letGo, setLoc, locVal, Int.reduceToNat, boxCells, und, TG, h0, h4, h16, h17, hi, hix, c1, c3, c4, c4', d1, d3, Bool.false_and]
          exact ⟨_, rfl, by simp (maxSteps := 5000000) only [SA, SB, SD, R, guardAt, binP, intP, indexAddrP, elemsOf, readCells, lenP, lenAt, resultsP, resultP, oneOr, reduceCtorEq, reduceIte, Nat.reduceEqDiff, Nat.reduceAdd, Nat.zero_add, Nat.reduceMul, Nat.reduceLT, Nat.reduceLeDiff, Int.reduceLT, Int.reduceNeg, Int.reduceLE, appendP, appendAt, letGo, setLoc, locVal, Int.reduceToNat, boxCells, und], by simp (maxSteps := 5000000) only [SA, SB, SD, R, guardAt, binP, intP, indexAddrP, elemsOf, readCells, lenP, lenAt, resultsP, resultP, oneOr, reduceCtorEq, reduceIte, Nat.reduceEqDiff, Nat.reduceAdd, Nat.zero_add, Nat.reduceMul, Nat.reduceLT, Nat.reduceLeDiff, Int.reduceLT, Int.reduceNeg, Int.reduceLE, appendP, appendAt, letGo, setLoc, locVal, Int.reduceToNat, boxCells, und]⟩
theorem loop_R01_Parse (L : Code) (hL : L = fpart Tryd.f71 [1,1,1,1,0,1,0]) (s : List UInt8) (hs : s.length ≤ 14) (f : PV) : ∀ (k i : Nat) (e : List PV) (n : Int), i + k = s.length → 0 ≤ n → n < 10 ^ i → getT e 0 = .str s → getT e 4 = .int .i64 n → getT e 5 = f → getT e 6 = .int .i64 i →
    PP s f (pr (s.drop i) n) (evL CC L ⟨e, []⟩) := by
  intro k
  induction k with
  | zero =>
    intro i e n hk hn0 hn h0 h4 h5 h6
    rw [evL_at (fpart Tryd.f71 [1,1,1,1,0,1,0,0]) hL]
    have hi : ¬ ((i : Int) < (s.length : Int)) := by omega
    have hd : s.drop i = [] := List.drop_eq_nil_of_le (by omega)
    have hc := pow_cap (by omega) hn
    have hlen := len_str s
    obtain ⟨ev, eo, so, co, ⟨hev, hco⟩, R⟩ := RULES CC; rw [← hev]
    rw [hd]
    simp only [fpart, part', Tryd.f71, Option.getD]
    simp (maxSteps := 5000000) only [SA, SB, SD, R, guardAt, binP, intP, indexAddrP, elemsOf, readCells, lenP, lenAt, resultsP, resultP, oneOr, reduceCtorEq, reduceIte, Nat.reduceEqDiff, Nat.reduceAdd, Nat.zero_add, Nat.reduceMul, Nat.reduceLT, Nat.reduceLeDiff, Int.reduceLT, Int.reduceNeg, Int.reduceLE, appendP, appendAt, letGo, setLoc, locVal, Int.reduceToNat, boxCells, und, TG, h0, h6, hi]
    exact ⟨hn0, hc, _, rfl, by simp (maxSteps := 5000000) only [SA, SB, SD, R, guardAt, binP, intP, indexAddrP, elemsOf, readCells, lenP, lenAt, resultsP, resultP, oneOr, reduceCtorEq, reduceIte, Nat.reduceEqDiff, Nat.reduceAdd, Nat.zero_add, Nat.reduceMul, Nat.reduceLT, Nat.reduceLeDiff, Int.reduceLT, Int.reduceNeg, Int.reduceLE, appendP, appendAt, letGo, setLoc, locVal, Int.reduceToNat, boxCells, und, h0], by simp (maxSteps := 5000000) only [SA, SB, SD, R, guardAt, binP, intP, indexAddrP, elemsOf, readCells, lenP, lenAt, resultsP, resultP, oneOr, reduceCtorEq, reduceIte, Nat.reduceEqDiff, Nat.reduceAdd, Nat.zero_add, Nat.reduceMul, Nat.reduceLT, Nat.reduceLeDiff, Int.reduceLT, Int.reduceNeg, Int.reduceLE, appendP, appendAt, letGo, setLoc, locVal, Int.reduceToNat, boxCells, und, h4], fun _ => by simp (maxSteps := 5000000) only [SA, SB, SD, R, guardAt, binP, intP, indexAddrP, elemsOf, readCells, lenP, lenAt, resultsP, resultP, oneOr, reduceCtorEq, reduceIte, Nat.reduceEqDiff, Nat.reduceAdd, Nat.zero_add, Nat.reduceMul, Nat.reduceLT, Nat.reduceLeDiff, Int.reduceLT, Int.reduceNeg, Int.reduceLE, appendP, appendAt, letGo, setLoc, locVal, Int.reduceToNat, boxCells, und, h5]⟩
  | succ k ih =>
    intro i e n hk hn0 hn h0 h4 h5 h6
    rw [evL_at (fpart Tryd.f71 [1,1,1,1,0,1,0,0]) hL]
    have hi : (i : Int) < (s.length : Int) := by omega
    have hx : s[i]? = some s[i] := by simp
    have hdr : s.drop i = s[i] :: s.drop (i + 1) := List.drop_eq_getElem_cons (by omega)
    rw [hdr]
    generalize s[i] = c at hx ⊢
    have hix := ix_str s i c hx
    have hc := pow_cap (by omega) hn
    have hw := wrap_i64 (n := (i : Int) + 1) ⟨by omega, by omega⟩
    have h256 := UInt8.toNat_lt c
    have hpl : pr (c :: s.drop (i + 1)) n = if isD c then pr (s.drop (i + 1)) (10 * n + ((c.toNat : Int) - 48)) else none := rfl
    rw [hpl]
    unfold isD
    generalize c.toNat = v at *
    obtain ⟨ev, eo, so, co, ⟨hev, hco⟩, R⟩ := RULES CC; rw [← hev]
    rw [← hev] at ih
    simp only [fpart, part', Tryd.f71, Option.getD]
    by_cases c1 : (v : Int) < 48
    · have d1 : ¬ 48 ≤ v := by omega
      simp (maxSteps := 5000000) only [SA, SB, SD, R, guardAt, binP, intP, indexAddrP, elemsOf, readCells, lenP, lenAt, resultsP, resultP, oneOr, reduceCtorEq, reduceIte, Nat.reduceEqDiff, Nat.reduceAdd, Nat.zero_add, Nat.reduceMul, Nat.reduceLT, Nat.reduceLeDiff, Int.reduceLT, Int.reduceNeg, Int.reduceLE, appendP, appendAt, letGo, setLoc, locVal, Int.reduceToNat, boxCells, und, TG, h0, h4, h6, hi, hix, c1, d1, Bool.false_and]
      exact ⟨_, rfl, by simp (maxSteps := 5000000) only [SA, SB, SD, R, guardAt, binP, intP, indexAddrP, elemsOf, readCells, lenP, lenAt, resultsP, resultP, oneOr, reduceCtorEq, reduceIte, Nat.reduceEqDiff, Nat.reduceAdd, Nat.zero_add, Nat.reduceMul, Nat.reduceLT, Nat.reduceLeDiff, Int.reduceLT, Int.reduceNeg, Int.reduceLE, appendP, appendAt, letGo, setLoc, locVal, Int.reduceToNat, boxCells, und], by simp (maxSteps := 5000000) only [SA, SB, SD, R, guardAt, binP, intP, indexAddrP, elemsOf, readCells, lenP, lenAt, resultsP, resultP, oneOr, reduceCtorEq, reduceIte, Nat.reduceEqDiff, Nat.reduceAdd, Nat.zero_add, Nat.reduceMul, Nat.reduceLT, Nat.reduceLeDiff, Int.reduceLT, Int.reduceNeg, Int.reduceLE, appendP, appendAt, letGo, setLoc, locVal, Int.reduceToNat, boxCells, und]⟩
    · by_cases c2 : (v : Int) > 57
      · have d2 : ¬ v ≤ 57 := by omega
        simp (maxSteps := 5000000) only [SA, SB, SD, R, guardAt, binP, intP, indexAddrP, elemsOf, readCells, lenP, lenAt, resultsP, resultP, oneOr, reduceCtorEq, reduceIte, Nat.reduceEqDiff, Nat.reduceAdd, Nat.zero_add, Nat.reduceMul, Nat.reduceLT, Nat.reduceLeDiff, Int.reduceLT, Int.reduceNeg, Int.reduceLE, appendP, appendAt, letGo, setLoc, locVal, Int.reduceToNat, boxCells, und, TG, h0, h4, h6, hi, hix, c1, c2, d2, Bool.and_false]
        exact ⟨_, rfl, by simp (maxSteps := 5000000) only [SA, SB, SD, R, guardAt, binP, intP, indexAddrP, elemsOf, readCells, lenP, lenAt, resultsP, resultP, oneOr, reduceCtorEq, reduceIte, Nat.reduceEqDiff, Nat.reduceAdd, Nat.zero_add, Nat.reduceMul, Nat.reduceLT, Nat.reduceLeDiff, Int.reduceLT, Int.reduceNeg, Int.reduceLE, appendP, appendAt, letGo, setLoc, locVal, Int.reduceToNat, boxCells, und], by simp (maxSteps := 5000000) only [SA, SB, SD, R, guardAt, binP, intP, indexAddrP, elemsOf, readCells, lenP, lenAt, resultsP, resultP, oneOr, reduceCtorEq, reduceIte, Nat.reduceEqDiff, Nat.reduceAdd, Nat.zero_add, Nat.reduceMul, Nat.reduceLT, Nat.reduceLeDiff, Int.reduceLT, Int.reduceNeg, Int.reduceLE, appendP, appendAt, letGo, setLoc, locVal, Int.reduceToNat, boxCells, und]⟩
      · have w1 := wrap_i64 (n := 10 * n) ⟨by omega, by omega⟩
        have w2 : IntKind.wrap .u8 ((v : Int) - 48) = (v : Int) - 48 := by simp [IntKind.wrap, IntKind.bits, IntKind.signed]; omega
        have w3 := conv_u8_i ((v : Int) - 48) ⟨by omega, by omega⟩
        have w4 := wrap_i64 (n := 10 * n + ((v : Int) - 48)) ⟨by omega, by omega⟩
        have d1 : 48 ≤ v := by omega
        have d2 : v ≤ 57 := by omega
        have hp := pow_step hn0 hn (d := (v : Int) - 48) ⟨by omega, by omega⟩
        simp (maxSteps := 5000000) only [SA, SB, SD, R, guardAt, binP, intP, indexAddrP, elemsOf, readCells, lenP, lenAt, resultsP, resultP, oneOr, reduceCtorEq, reduceIte, Nat.reduceEqDiff, Nat.reduceAdd, Nat.zero_add, Nat.reduceMul, Nat.reduceLT, Nat.reduceLeDiff, Int.reduceLT, Int.reduceNeg, Int.reduceLE, appendP, appendAt, letGo, setLoc, locVal, Int.reduceToNat, boxCells, und, TG, h0, h4, h6, hi, hw, hix, c1, c2, w1, w2, w3, w4, d1, d2]
        exact ih (i + 1) _ _ (by omega) hp.1 hp.2 (by simp (maxSteps := 5000000) only [SA, SB, SD, R, guardAt, binP, intP, indexAddrP, elemsOf, readCells, lenP, lenAt, resultsP, resultP, oneOr, reduceCtorEq, reduceIte, Nat.reduceEqDiff, Nat.reduceAdd, Nat.zero_add, Nat.reduceMul, Nat.reduceLT, Nat.reduceLeDiff, Int.reduceLT, Int.reduceNeg, Int.reduceLE, appendP, appendAt, letGo, setLoc, locVal, Int.reduceToNat, boxCells, und, h0]) (by simp (maxSteps := 5000000) only [SA, SB, SD, R, guardAt, binP, intP, indexAddrP, elemsOf, readCells, lenP, lenAt, resultsP, resultP, oneOr, reduceCtorEq, reduceIte, Nat.reduceEqDiff, Nat.reduceAdd, Nat.zero_add, Nat.reduceMul, Nat.reduceLT, Nat.reduceLeDiff, Int.reduceLT, Int.reduceNeg, Int.reduceLE, appendP, appendAt, letGo, setLoc, locVal, Int.reduceToNat, boxCells, und]) (by simp (maxSteps := 5000000) only [SA, SB, SD, R, guardAt, binP, intP, indexAddrP, elemsOf, readCells, lenP, lenAt, resultsP, resultP, oneOr, reduceCtorEq, reduceIte, Nat.reduceEqDiff, Nat.reduceAdd, Nat.zero_add, Nat.reduceMul, Nat.reduceLT, Nat.reduceLeDiff, Int.reduceLT, Int.reduceNeg, Int.reduceLE, appendP, appendAt, letGo, setLoc, locVal, Int.reduceToNat, boxCells, und, h5]) (by simp (maxSteps := 5000000) only [SA, SB, SD, R, guardAt, binP, intP, indexAddrP, elemsOf, readCells, lenP, lenAt, resultsP, resultP, oneOr, reduceCtorEq, reduceIte, Nat.reduceEqDiff, Nat.reduceAdd, Nat.zero_add, Nat.reduceMul, Nat.reduceLT, Nat.reduceLeDiff, Int.reduceLT, Int.reduceNeg, Int.reduceLE, appendP, appendAt, letGo, setLoc, locVal, Int.reduceToNat, boxCells, und]; rfl)
/-- what both say of a text -/
def parseI (s : List UInt8) : Int × Bool :=
  if s.length = 0 ∨ s.length > 14 then (0, false)
  else match pl s 0 0 with
    | none => (0, false)
    | some n => let m := if s.head? = some 45 then -n else n
      if satI m = m ∧ Lib.itoa m = s then (m, true) else (0, false)
theorem call_num_Parse (s : List UInt8) (hs : s.length ≤ maxLen) : callL CC 55 [.str s] [] = some (.ret (.tup [.int .i64 (parseI s).1, .bool (parseI s).2]), []) := by
  rw [callL_enter (fn := Tryd.f55) (c := Tryd.f55.body.getD .skip) rfl rfl fat_num_Parse rfl ok_num_Parse (Nat.le_of_ble_eq_true rfl)]
  have hl := len_str s
  unfold parseI
  by_cases c1 : (s.length : Int) = 0
  · have c1' : s.length = 0 := by omega
    obtain ⟨ev, eo, so, co, ⟨hev, hco⟩, R⟩ := RULES CC; rw [← hev]
    simp only [fpart, part', Tryd.f55, Option.getD]
    have zz : (((0 : Nat) : Int) == 0) = true := rfl
    simp (maxSteps := 5000000) only [SA, SB, SD, R, guardAt, binP, intP, indexAddrP, elemsOf, readCells, lenP, lenAt, resultsP, resultP, oneOr, reduceCtorEq, reduceIte, Nat.reduceEqDiff, Nat.reduceAdd, Nat.zero_add, Nat.reduceMul, Nat.reduceLT, Nat.reduceLeDiff, Int.reduceLT, Int.reduceNeg, Int.reduceLE, appendP, appendAt, letGo, setLoc, locVal, Int.reduceToNat, boxCells, und, TG, zz, c1']
  · have c1b : ((s.length : Int) == 0) = false := by simpa using c1
    have c1' : ¬ s.length = 0 := by omega
    by_cases c2 : (s.length : Int) > 14
    · have c2' : s.length > 14 := by omega
      obtain ⟨ev, eo, so, co, ⟨hev, hco⟩, R⟩ := RULES CC; rw [← hev]
      simp only [fpart, part', Tryd.f55, Option.getD]
      simp (maxSteps := 5000000) only [SA, SB, SD, R, guardAt, binP, intP, indexAddrP, elemsOf, readCells, lenP, lenAt, resultsP, resultP, oneOr, reduceCtorEq, reduceIte, Nat.reduceEqDiff, Nat.reduceAdd, Nat.zero_add, Nat.reduceMul, Nat.reduceLT, Nat.reduceLeDiff, Int.reduceLT, Int.reduceNeg, Int.reduceLE, appendP, appendAt, letGo, setLoc, locVal, Int.reduceToNat, boxCells, und, TG, c1b, c1', c2, c2']
    · have c2' : ¬ s.length > 14 := by omega
      have hloop := fun e => loop_num_Parse _ rfl s (by omega) s.length 0 e 0 (by omega) (by omega) (by simp)
      rw [if_neg (by omega)]
      have hx : s[0]? = some (s[0]'(by omega)) := by simp
      have hh : s.head? = some (s[0]'(by omega)) := by rw [List.head?_eq_getElem?]; exact hx
      generalize s[0]'(by omega) = c at hx hh
      have hix := ix_str0 s c hx
      obtain ⟨ev, eo, so, co, ⟨hev, hco⟩, R⟩ := RULES CC; rw [← hev]; have o_num_Sat := @op_num_Sat; rw [← hco] at o_num_Sat; have o_num_Digits := @op_num_Digits; rw [← hco] at o_num_Digits
      rw [← hev] at hloop
      simp only [fpart, part', Tryd.f55, Option.getD] at hloop ⊢
      simp (maxSteps := 5000000) only [SA, SB, SD, R, guardAt, binP, intP, indexAddrP, elemsOf, readCells, lenP, lenAt, resultsP, resultP, oneOr, reduceCtorEq, reduceIte, Nat.reduceEqDiff, Nat.reduceAdd, Nat.zero_add, Nat.reduceMul, Nat.reduceLT, Nat.reduceLeDiff, Int.reduceLT, Int.reduceNeg, Int.reduceLE, appendP, appendAt, letGo, setLoc, locVal, Int.reduceToNat, boxCells, und, TG, c1b, c2]
      generalize hE : ev _ ⟨_, _⟩ = r
      rw [List.drop_zero] at hloop
      have hP : PP s .top (pl s 0 0) r := by
        rw [← hE]
        exact hloop _ (by simp (maxSteps := 5000000) only [SA, SB, SD, R, guardAt, binP, intP, indexAddrP, elemsOf, readCells, lenP, lenAt, resultsP, resultP, oneOr, reduceCtorEq, reduceIte, Nat.reduceEqDiff, Nat.reduceAdd, Nat.zero_add, Nat.reduceMul, Nat.reduceLT, Nat.reduceLeDiff, Int.reduceLT, Int.reduceNeg, Int.reduceLE, appendP, appendAt, letGo, setLoc, locVal, Int.reduceToNat, boxCells, und]) (by simp (maxSteps := 5000000) only [SA, SB, SD, R, guardAt, binP, intP, indexAddrP, elemsOf, readCells, lenP, lenAt, resultsP, resultP, oneOr, reduceCtorEq, reduceIte, Nat.reduceEqDiff, Nat.reduceAdd, Nat.zero_add, Nat.reduceMul, Nat.reduceLT, Nat.reduceLeDiff, Int.reduceLT, Int.reduceNeg, Int.reduceLE, appendP, appendAt, letGo, setLoc, locVal, Int.reduceToNat, boxCells, und]) (by simp (maxSteps := 5000000) only [SA, SB, SD, R, guardAt, binP, intP, indexAddrP, elemsOf, readCells, lenP, lenAt, resultsP, resultP, oneOr, reduceCtorEq, reduceIte, Nat.reduceEqDiff, Nat.reduceAdd, Nat.zero_add, Nat.reduceMul, Nat.reduceLT, Nat.reduceLeDiff, Int.reduceLT, Int.reduceNeg, Int.reduceLE, appendP, appendAt, letGo, setLoc, locVal, Int.reduceToNat, boxCells, und]) (by simp (maxSteps := 5000000) only [SA, SB, SD, R, guardAt, binP, intP, indexAddrP, elemsOf, readCells, lenP, lenAt, resultsP, resultP, oneOr, reduceCtorEq, reduceIte, Nat.reduceEqDiff, Nat.reduceAdd, Nat.zero_add, Nat.reduceMul, Nat.reduceLT, Nat.reduceLeDiff, Int.reduceLT, Int.reduceNeg, Int.reduceLE, appendP, appendAt, letGo, setLoc, locVal, Int.reduceToNat, boxCells, und]; rfl)
      clear hE hloop
      cases hp : pl s 0 0 with
      | some n' =>
        rw [hp] at hP
        obtain ⟨hn0, hn1, e', he, g0, g4, _⟩ := hP
        subst he
        rw [hh]
        simp only
        have hneg : ((c.toNat : Int) == 45) = decide (some c = some 45) := by
          have : (some c = some (45 : UInt8)) ↔ ((c.toNat : Int) = 45) := by
            rw [Option.some.injEq, ← UInt8.toNat_inj]
            have : (45 : UInt8).toNat = 45 := rfl
            omega
          rw [decide_eq_decide.2 this]
          rfl
        by_cases c3 : some c = some (45 : UInt8)
        · rw [if_pos c3]
          rw [decide_eq_true c3] at hneg
          have w := wrap_i64 (n := -n') ⟨by omega, by omega⟩
          have hd := o_num_Digits (-n') ⟨by omega, by omega⟩
          by_cases c4 : satI (-n') = -n'
          · by_cases c5 : Lib.itoa (-n') = s
            · have c5' : (s == s) = true := by simp
              simp (maxSteps := 5000000) only [SA, SB, SD, R, guardAt, binP, intP, indexAddrP, elemsOf, readCells, lenP, lenAt, resultsP, resultP, oneOr, reduceCtorEq, reduceIte, Nat.reduceEqDiff, Nat.reduceAdd, Nat.zero_add, Nat.reduceMul, Nat.reduceLT, Nat.reduceLeDiff, Int.reduceLT, Int.reduceNeg, Int.reduceLE, appendP, appendAt, letGo, setLoc, locVal, Int.reduceToNat, boxCells, und, TG, unP, strP, g0, g4, hix, hneg, Int.zero_sub, w, o_num_Sat, hd, c4, c5, c5']
            · have c5' : (Lib.itoa (-n') == s) = false := by simpa using c5
              simp (maxSteps := 5000000) only [SA, SB, SD, R, guardAt, binP, intP, indexAddrP, elemsOf, readCells, lenP, lenAt, resultsP, resultP, oneOr, reduceCtorEq, reduceIte, Nat.reduceEqDiff, Nat.reduceAdd, Nat.zero_add, Nat.reduceMul, Nat.reduceLT, Nat.reduceLeDiff, Int.reduceLT, Int.reduceNeg, Int.reduceLE, appendP, appendAt, letGo, setLoc, locVal, Int.reduceToNat, boxCells, und, TG, unP, strP, g0, g4, hix, hneg, Int.zero_sub, w, o_num_Sat, hd, c4, c5, c5', and_false]
          · have c4' : (satI (-n') != -n') = true := by simpa using c4
            simp (maxSteps := 5000000) only [SA, SB, SD, R, guardAt, binP, intP, indexAddrP, elemsOf, readCells, lenP, lenAt, resultsP, resultP, oneOr, reduceCtorEq, reduceIte, Nat.reduceEqDiff, Nat.reduceAdd, Nat.zero_add, Nat.reduceMul, Nat.reduceLT, Nat.reduceLeDiff, Int.reduceLT, Int.reduceNeg, Int.reduceLE, appendP, appendAt, letGo, setLoc, locVal, Int.reduceToNat, boxCells, und, TG, unP, strP, g0, g4, hix, hneg, Int.zero_sub, w, o_num_Sat, hd, c4, c4', false_and]
        · rw [if_neg c3]
          rw [decide_eq_false c3] at hneg
          have hd := o_num_Digits n' ⟨by omega, by omega⟩
          by_cases c4 : satI n' = n'
          · by_cases c5 : Lib.itoa n' = s
            · have c5' : (s == s) = true := by simp
              simp (maxSteps := 5000000) only [SA, SB, SD, R, guardAt, binP, intP, indexAddrP, elemsOf, readCells, lenP, lenAt, resultsP, resultP, oneOr, reduceCtorEq, reduceIte, Nat.reduceEqDiff, Nat.reduceAdd, Nat.zero_add, Nat.reduceMul, Nat.reduceLT, Nat.reduceLeDiff, Int.reduceLT, Int.reduceNeg, Int.reduceLE, appendP, appendAt, letGo, setLoc, locVal, Int.reduceToNat, boxCells, und, TG, strP, g0, g4, hix, hneg, o_num_Sat, hd, c4, c5, c5']
            · have c5' : (Lib.itoa n' == s) = false := by simpa using c5
              simp (maxSteps := 5000000) only [SA, SB, SD, R, guardAt, binP, intP, indexAddrP, elemsOf, readCells, lenP, lenAt, resultsP, resultP, oneOr, reduceCtorEq, reduceIte, Nat.reduceEqDiff, Nat.reduceAdd, Nat.zero_add, Nat.reduceMul, Nat.reduceLT, Nat.reduceLeDiff, Int.reduceLT, Int.reduceNeg, Int.reduceLE, appendP, appendAt, letGo, setLoc, locVal, Int.reduceToNat, boxCells, und, TG, strP, g0, g4, hix, hneg, o_num_Sat, hd, c4, c5, c5', and_false]
          · have c4' : (satI n' != n') = true := by simpa using c4
            simp (maxSteps := 5000000) only [SA, SB, SD, R, guardAt, binP, intP, indexAddrP, elemsOf, readCells, lenP, lenAt, resultsP, resultP, oneOr, reduceCtorEq, reduceIte, Nat.reduceEqDiff, Nat.reduceAdd, Nat.zero_add, Nat.reduceMul, Nat.reduceLT, Nat.reduceLeDiff, Int.reduceLT, Int.reduceNeg, Int.reduceLE, appendP, appendAt, letGo, setLoc, locVal, Int.reduceToNat, boxCells, und, TG, strP, g0, g4, hix, hneg, o_num_Sat, hd, c4, c4', false_and]
      | none =>
        rw [hp] at hP
        obtain ⟨e', he, g2, g3⟩ := hP
        subst he
        simp (maxSteps := 5000000) only [SA, SB, SD, R, guardAt, binP, intP, indexAddrP, elemsOf, readCells, lenP, lenAt, resultsP, resultP, oneOr, reduceCtorEq, reduceIte, Nat.reduceEqDiff, Nat.reduceAdd, Nat.zero_add, Nat.reduceMul, Nat.reduceLT, Nat.reduceLeDiff, Int.reduceLT, Int.reduceNeg, Int.reduceLE, appendP, appendAt, letGo, setLoc, locVal, Int.reduceToNat, boxCells, und, TG, g2, g3]
theorem op_num_Parse (s : List UInt8) (hs : s.length ≤ maxLen) (bx) : callOp CC (callL CC) 55 [.str s] bx = some (.ret (.tup [.int .i64 (parseI s).1, .bool (parseI s).2]), bx) := callOp_of rfl (by simp only [SA, Bool.and_true]) (call_num_Parse s hs) rfl
theorem pl_zero (s : List UInt8) : pl s 0 0 = if s.head? = some 45 then pr (s.drop 1) 0 else pr s 0 := by
  cases s with
  | nil => rfl
  | cons c r =>
    have hc : c.toNat = 45 ↔ c = 45 := by rw [← UInt8.toNat_inj]; rfl
    by_cases h : c = 45
    · subst h
      rw [if_pos (show (45 :: r).head? = some 45 from rfl)]
      show pl (45 :: r) 0 0 = pr r 0
      rw [pl, if_neg (by decide), if_neg (by decide), pl_pr _ _ _ (by omega)]
    · have hn : ¬ c.toNat = 45 := fun e => h (hc.1 e)
      rw [if_neg (by simpa using h), pl, pr, pl_pr _ _ _ (by omega)]
      split
      · rfl
      · rw [if_pos (Or.inr hn)]
theorem satI_iff (m : Int) : satI m = m ↔ ¬ m > 1099511627776 ∧ ¬ m < -1099511627776 := by
  unfold satI
  split
  · omega
  · split <;> omega
theorem call_R01_Parse (s : List UInt8) (hs : s.length ≤ maxLen) : callL CC 71 [.str s] [] = some (.ret (.tup [.int .i64 (parseI s).1, .bool (parseI s).2]), []) := by
  rw [callL_enter (fn := Tryd.f71) (c := Tryd.f71.body.getD .skip) rfl rfl fat_R01_Parse rfl ok_R01_Parse (Nat.le_of_ble_eq_true rfl)]
  have hl := len_str s
  by_cases c2 : (s.length : Int) > 14
  · have c2' : s.length > 14 := by omega
    have e : parseI s = (0, false) := by unfold parseI; rw [if_pos (Or.inr c2')]
    rw [e]
    obtain ⟨ev, eo, so, co, ⟨hev, hco⟩, R⟩ := RULES CC; rw [← hev]
    simp only [fpart, part', Tryd.f71, Option.getD]
    simp (maxSteps := 5000000) only [SA, SB, SD, R, guardAt, binP, intP, indexAddrP, elemsOf, readCells, lenP, lenAt, resultsP, resultP, oneOr, reduceCtorEq, reduceIte, Nat.reduceEqDiff, Nat.reduceAdd, Nat.zero_add, Nat.reduceMul, Nat.reduceLT, Nat.reduceLeDiff, Int.reduceLT, Int.reduceNeg, Int.reduceLE, appendP, appendAt, letGo, setLoc, locVal, Int.reduceToNat, boxCells, und, TG, c2]
  · have hs14 : s.length ≤ 14 := by omega
    have hpz := pl_zero s
    by_cases c3 : s.head? = some 45
    · have hne : s.length ≠ 0 := by intro h; rw [List.length_eq_zero_iff.1 h] at c3; cases c3
      have hx : s[0]? = some 45 := by rw [← List.head?_eq_getElem?]; exact c3
      have hix := ix_str0 s 45 hx
      have c4 : (s.length : Int) > 0 := by omega
      have h45 : ((45 : UInt8).toNat : Int) = 45 := rfl
      rw [h45] at hix
      have hsn : (s == []) = false := by
        cases s with
        | nil => cases c3
        | cons => rfl
      rw [if_pos c3] at hpz
      have hloop := fun e => loop_R01_Parse _ rfl s hs14 (.int .i64 1) (s.length - 1) 1 e 0 (by omega) (by omega) (by decide)
      have e : parseI s = match pr (s.drop 1) 0 with
          | none => (0, false)
          | some n => if satI (-n) = -n ∧ Lib.itoa (-n) = s then (-n, true) else (0, false) := by
        unfold parseI
        rw [if_neg (by omega), hpz, c3]
        cases pr (s.drop 1) 0 <;> rfl
      rw [e]
      obtain ⟨ev, eo, so, co, ⟨hev, hco⟩, R⟩ := RULES CC; rw [← hev]; have o_R01_Digits := @op_R01_Digits; rw [← hco] at o_R01_Digits
      rw [← hev] at hloop
      simp only [fpart, part', Tryd.f71, Option.getD] at hloop ⊢
      simp (maxSteps := 5000000) only [SA, SB, SD, R, guardAt, binP, intP, indexAddrP, elemsOf, readCells, lenP, lenAt, resultsP, resultP, oneOr, reduceCtorEq, reduceIte, Nat.reduceEqDiff, Nat.reduceAdd, Nat.zero_add, Nat.reduceMul, Nat.reduceLT, Nat.reduceLeDiff, Int.reduceLT, Int.reduceNeg, Int.reduceLE, appendP, appendAt, letGo, setLoc, locVal, Int.reduceToNat, boxCells, und, TG, c2, c4, hix, Int.reduceBEq]
      generalize hE : ev _ ⟨_, _⟩ = r
      have hP : PP s (.int .i64 1) (pr (s.drop 1) 0) r := by
        rw [← hE]
        exact hloop _ (by simp (maxSteps := 5000000) only [SA, SB, SD, R, guardAt, binP, intP, indexAddrP, elemsOf, readCells, lenP, lenAt, resultsP, resultP, oneOr, reduceCtorEq, reduceIte, Nat.reduceEqDiff, Nat.reduceAdd, Nat.zero_add, Nat.reduceMul, Nat.reduceLT, Nat.reduceLeDiff, Int.reduceLT, Int.reduceNeg, Int.reduceLE, appendP, appendAt, letGo, setLoc, locVal, Int.reduceToNat, boxCells, und]) (by simp (maxSteps := 5000000) only [SA, SB, SD, R, guardAt, binP, intP, indexAddrP, elemsOf, readCells, lenP, lenAt, resultsP, resultP, oneOr, reduceCtorEq, reduceIte, Nat.reduceEqDiff, Nat.reduceAdd, Nat.zero_add, Nat.reduceMul, Nat.reduceLT, Nat.reduceLeDiff, Int.reduceLT, Int.reduceNeg, Int.reduceLE, appendP, appendAt, letGo, setLoc, locVal, Int.reduceToNat, boxCells, und]) (by simp (maxSteps := 5000000) only [SA, SB, SD, R, guardAt, binP, intP, indexAddrP, elemsOf, readCells, lenP, lenAt, resultsP, resultP, oneOr, reduceCtorEq, reduceIte, Nat.reduceEqDiff, Nat.reduceAdd, Nat.zero_add, Nat.reduceMul, Nat.reduceLT, Nat.reduceLeDiff, Int.reduceLT, Int.reduceNeg, Int.reduceLE, appendP, appendAt, letGo, setLoc, locVal, Int.reduceToNat, boxCells, und]) (by simp (maxSteps := 5000000) only [SA, SB, SD, R, guardAt, binP, intP, indexAddrP, elemsOf, readCells, lenP, lenAt, resultsP, resultP, oneOr, reduceCtorEq, reduceIte, Nat.reduceEqDiff, Nat.reduceAdd, Nat.zero_add, Nat.reduceMul, Nat.reduceLT, Nat.reduceLeDiff, Int.reduceLT, Int.reduceNeg, Int.reduceLE, appendP, appendAt, letGo, setLoc, locVal, Int.reduceToNat, boxCells, und]; rfl)
      clear hE hloop
      cases hp : pr (s.drop 1) 0 with
      | some n' =>
        rw [hp] at hP
        obtain ⟨hn0, hn1, e', he, g0, g4, g5⟩ := hP
        subst he
        have g5 := g5 (fun h => by cases h)
        have w := wrap_i64 (n := -n') ⟨by omega, by omega⟩
        have hd := o_R01_Digits (-n') ⟨by omega, by omega⟩
        have hsat := satI_iff (-n')
        by_cases d1 : -n' > 1099511627776
        · have d3 : ¬ satI (-n') = -n' := fun h => (hsat.1 h).1 d1
          simp (maxSteps := 5000000) only [SA, SB, SD, R, guardAt, binP, intP, indexAddrP, elemsOf, readCells, lenP, lenAt, resultsP, resultP, oneOr, reduceCtorEq, reduceIte, Nat.reduceEqDiff, Nat.reduceAdd, Nat.zero_add, Nat.reduceMul, Nat.reduceLT, Nat.reduceLeDiff, Int.reduceLT, Int.reduceNeg, Int.reduceLE, appendP, appendAt, letGo, setLoc, locVal, Int.reduceToNat, boxCells, und, TG, unP, strP, g0, g4, g5, Int.zero_sub, w, hd, hsn, d1, d3, false_and, Int.reduceBEq]
        · by_cases d2 : -n' < -1099511627776
          · have d3 : ¬ satI (-n') = -n' := fun h => (hsat.1 h).2 d2
            simp (maxSteps := 5000000) only [SA, SB, SD, R, guardAt, binP, intP, indexAddrP, elemsOf, readCells, lenP, lenAt, resultsP, resultP, oneOr, reduceCtorEq, reduceIte, Nat.reduceEqDiff, Nat.reduceAdd, Nat.zero_add, Nat.reduceMul, Nat.reduceLT, Nat.reduceLeDiff, Int.reduceLT, Int.reduceNeg, Int.reduceLE, appendP, appendAt, letGo, setLoc, locVal, Int.reduceToNat, boxCells, und, TG, unP, strP, g0, g4, g5, Int.zero_sub, w, hd, hsn, d1, d2, d3, false_and, Int.reduceBEq]
          · have d3 : satI (-n') = -n' := hsat.2 ⟨d1, d2⟩
            by_cases c5 : Lib.itoa (-n') = s
            · have c5' : (s == s) = true := by simp
              simp (maxSteps := 5000000) only [SA, SB, SD, R, guardAt, binP, intP, indexAddrP, elemsOf, readCells, lenP, lenAt, resultsP, resultP, oneOr, reduceCtorEq, reduceIte, Nat.reduceEqDiff, Nat.reduceAdd, Nat.zero_add, Nat.reduceMul, Nat.reduceLT, Nat.reduceLeDiff, Int.reduceLT, Int.reduceNeg, Int.reduceLE, appendP, appendAt, letGo, setLoc, locVal, Int.reduceToNat, boxCells, und, TG, unP, strP, g0, g4, g5, Int.zero_sub, w, hd, hsn, d1, d2, d3, c5, c5', Int.reduceBEq]
            · have c5' : (Lib.itoa (-n') == s) = false := by simpa using c5
              simp (maxSteps := 5000000) only [SA, SB, SD, R, guardAt, binP, intP, indexAddrP, elemsOf, readCells, lenP, lenAt, resultsP, resultP, oneOr, reduceCtorEq, reduceIte, Nat.reduceEqDiff, Nat.reduceAdd, Nat.zero_add, Nat.reduceMul, Nat.reduceLT, Nat.reduceLeDiff, Int.reduceLT, Int.reduceNeg, Int.reduceLE, appendP, appendAt, letGo, setLoc, locVal, Int.reduceToNat, boxCells, und, TG, unP, strP, g0, g4, g5, Int.zero_sub, w, hd, hsn, d1, d2, d3, c5, c5', and_false, Int.reduceBEq]
      | none =>
        rw [hp] at hP
        obtain ⟨e', he, g2, g3⟩ := hP
        subst he
        simp (maxSteps := 5000000) only [SA, SB, SD, R, guardAt, binP, intP, indexAddrP, elemsOf, readCells, lenP, lenAt, resultsP, resultP, oneOr, reduceCtorEq, reduceIte, Nat.reduceEqDiff, Nat.reduceAdd, Nat.zero_add, Nat.reduceMul, Nat.reduceLT, Nat.reduceLeDiff, Int.reduceLT, Int.reduceNeg, Int.reduceLE, appendP, appendAt, letGo, setLoc, locVal, Int.reduceToNat, boxCells, und, TG, g2, g3]
    · rw [if_neg c3] at hpz
      have hloop := fun e => loop_R01_Parse _ rfl s hs14 (.int .i64 0) s.length 0 e 0 (by omega) (by omega) (by decide)
      rw [List.drop_zero] at hloop
      have e : parseI s = if s = [] then (0, false) else match pr s 0 with
          | none => (0, false)
          | some n => if satI n = n ∧ Lib.itoa n = s then (n, true) else (0, false) := by
        unfold parseI
        by_cases h : s = []
        · subst h; rfl
        · have : s.length ≠ 0 := fun e => h (List.length_eq_zero_iff.1 e)
          rw [if_neg (by omega), if_neg h, hpz]
          cases pr s 0 with
          | none => rfl
          | some n => simp only; rw [if_neg c3]
      rw [e]
      obtain ⟨ev, eo, so, co, ⟨hev, hco⟩, R⟩ := RULES CC; rw [← hev]; have o_R01_Digits := @op_R01_Digits; rw [← hco] at o_R01_Digits
      rw [← hev] at hloop
      simp only [fpart, part', Tryd.f71, Option.getD] at hloop ⊢
      by_cases c4 : (s.length : Int) > 0
      · have hx : s[0]? = some (s[0]'(by omega)) := by simp
        have hh : s.head? = some (s[0]'(by omega)) := by rw [List.head?_eq_getElem?]; exact hx
        generalize s[0]'(by omega) = c at hx hh
        have hix := ix_str0 s c hx
        have hneg : ((c.toNat : Int) == 45) = false := by
          have : ¬ c.toNat = 45 := fun h => c3 (by rw [hh]; congr 1; exact UInt8.toNat_inj.1 h)
          simp; omega
        have hne : s ≠ [] := fun h => by subst h; simp at c4
        have hsn : (s == []) = false := by simpa using hne
        simp (maxSteps := 5000000) only [SA, SB, SD, R, guardAt, binP, intP, indexAddrP, elemsOf, readCells, lenP, lenAt, resultsP, resultP, oneOr, reduceCtorEq, reduceIte, Nat.reduceEqDiff, Nat.reduceAdd, Nat.zero_add, Nat.reduceMul, Nat.reduceLT, Nat.reduceLeDiff, Int.reduceLT, Int.reduceNeg, Int.reduceLE, appendP, appendAt, letGo, setLoc, locVal, Int.reduceToNat, boxCells, und, TG, c2, c4, hix, hneg, hne]
        generalize hE : ev _ ⟨_, _⟩ = r
        have hP : PP s (.int .i64 0) (pr s 0) r := by
          rw [← hE]
          exact hloop _ (by simp (maxSteps := 5000000) only [SA, SB, SD, R, guardAt, binP, intP, indexAddrP, elemsOf, readCells, lenP, lenAt, resultsP, resultP, oneOr, reduceCtorEq, reduceIte, Nat.reduceEqDiff, Nat.reduceAdd, Nat.zero_add, Nat.reduceMul, Nat.reduceLT, Nat.reduceLeDiff, Int.reduceLT, Int.reduceNeg, Int.reduceLE, appendP, appendAt, letGo, setLoc, locVal, Int.reduceToNat, boxCells, und]) (by simp (maxSteps := 5000000) only [SA, SB, SD, R, guardAt, binP, intP, indexAddrP, elemsOf, readCells, lenP, lenAt, resultsP, resultP, oneOr, reduceCtorEq, reduceIte, Nat.reduceEqDiff, Nat.reduceAdd, Nat.zero_add, Nat.reduceMul, Nat.reduceLT, Nat.reduceLeDiff, Int.reduceLT, Int.reduceNeg, Int.reduceLE, appendP, appendAt, letGo, setLoc, locVal, Int.reduceToNat, boxCells, und]) (by simp (maxSteps := 5000000) only [SA, SB, SD, R, guardAt, binP, intP, indexAddrP, elemsOf, readCells, lenP, lenAt, resultsP, resultP, oneOr, reduceCtorEq, reduceIte, Nat.reduceEqDiff, Nat.reduceAdd, Nat.zero_add, Nat.reduceMul, Nat.reduceLT, Nat.reduceLeDiff, Int.reduceLT, Int.reduceNeg, Int.reduceLE, appendP, appendAt, letGo, setLoc, locVal, Int.reduceToNat, boxCells, und]) (by simp (maxSteps := 5000000) only [SA, SB, SD, R, guardAt, binP, intP, indexAddrP, elemsOf, readCells, lenP, lenAt, resultsP, resultP, oneOr, reduceCtorEq, reduceIte, Nat.reduceEqDiff, Nat.reduceAdd, Nat.zero_add, Nat.reduceMul, Nat.reduceLT, Nat.reduceLeDiff, Int.reduceLT, Int.reduceNeg, Int.reduceLE, appendP, appendAt, letGo, setLoc, locVal, Int.reduceToNat, boxCells, und]; rfl)
        clear hE hloop
        cases hp : pr s 0 with
        | some n' =>
          rw [hp] at hP
          obtain ⟨hn0, hn1, e', he, g0, g4, g5⟩ := hP
          subst he
          have g5 := g5 (fun h => by cases h)
          have hd := o_R01_Digits n' ⟨by omega, by omega⟩
          have hsat := satI_iff n'
          by_cases d1 : n' > 1099511627776
          · have d3 : ¬ satI n' = n' := fun h => (hsat.1 h).1 d1
            simp (maxSteps := 5000000) only [SA, SB, SD, R, guardAt, binP, intP, indexAddrP, elemsOf, readCells, lenP, lenAt, resultsP, resultP, oneOr, reduceCtorEq, reduceIte, Nat.reduceEqDiff, Nat.reduceAdd, Nat.zero_add, Nat.reduceMul, Nat.reduceLT, Nat.reduceLeDiff, Int.reduceLT, Int.reduceNeg, Int.reduceLE, appendP, appendAt, letGo, setLoc, locVal, Int.reduceToNat, boxCells, und, TG, strP, g0, g4, g5, hd, hsn, d1, d3, false_and, Int.reduceBEq]
          · have d2 : ¬ n' < -1099511627776 := by omega
            have d3 : satI n' = n' := hsat.2 ⟨d1, d2⟩
            by_cases c5 : Lib.itoa n' = s
            · have c5' : (s == s) = true := by simp
              simp (maxSteps := 5000000) only [SA, SB, SD, R, guardAt, binP, intP, indexAddrP, elemsOf, readCells, lenP, lenAt, resultsP, resultP, oneOr, reduceCtorEq, reduceIte, Nat.reduceEqDiff, Nat.reduceAdd, Nat.zero_add, Nat.reduceMul, Nat.reduceLT, Nat.reduceLeDiff, Int.reduceLT, Int.reduceNeg, Int.reduceLE, appendP, appendAt, letGo, setLoc, locVal, Int.reduceToNat, boxCells, und, TG, strP, g0, g4, g5, hd, hsn, d1, d2, d3, c5, c5', Int.reduceBEq]
            · have c5' : (Lib.itoa n' == s) = false := by simpa using c5
              simp (maxSteps := 5000000) only [SA, SB, SD, R, guardAt, binP, intP, indexAddrP, elemsOf, readCells, lenP, lenAt, resultsP, resultP, oneOr, reduceCtorEq, reduceIte, Nat.reduceEqDiff, Nat.reduceAdd, Nat.zero_add, Nat.reduceMul, Nat.reduceLT, Nat.reduceLeDiff, Int.reduceLT, Int.reduceNeg, Int.reduceLE, appendP, appendAt, letGo, setLoc, locVal, Int.reduceToNat, boxCells, und, TG, strP, g0, g4, g5, hd, hsn, d1, d2, d3, c5, c5', and_false, Int.reduceBEq]
        | none =>
          rw [hp] at hP
          obtain ⟨e', he, g2, g3⟩ := hP
          subst he
          simp (maxSteps := 5000000) only [SA, SB, SD, R, guardAt, binP, intP, indexAddrP, elemsOf, readCells, lenP, lenAt, resultsP, resultP, oneOr, reduceCtorEq, reduceIte, Nat.reduceEqDiff, Nat.reduceAdd, Nat.zero_add, Nat.reduceMul, Nat.reduceLT, Nat.reduceLeDiff, Int.reduceLT, Int.reduceNeg, Int.reduceLE, appendP, appendAt, letGo, setLoc, locVal, Int.reduceToNat, boxCells, und, TG, g2, g3]
      · have hnil : s = [] := List.length_eq_zero_iff.1 (by omega)
        subst hnil
        have z0 : ¬ (((0 : Nat) : Int) > 14) := by decide
        have z1 : ¬ (((0 : Nat) : Int) > 0) := by decide
        have zz : (([] : List UInt8) == []) = true := rfl
        simp (maxSteps := 5000000) only [SA, SB, SD, R, guardAt, binP, intP, indexAddrP, elemsOf, readCells, lenP, lenAt, resultsP, resultP, oneOr, reduceCtorEq, reduceIte, Nat.reduceEqDiff, Nat.reduceAdd, Nat.zero_add, Nat.reduceMul, Nat.reduceLT, Nat.reduceLeDiff, Int.reduceLT, Int.reduceNeg, Int.reduceLE, appendP, appendAt, letGo, setLoc, locVal, Int.reduceToNat, boxCells, und, TG, z0, z1, hl]
        generalize hE : ev _ ⟨_, _⟩ = r
        have hP : PP [] (.int .i64 0) (pr [] 0) r := by
          rw [← hE]
          exact hloop _ (by simp (maxSteps := 5000000) only [SA, SB, SD, R, guardAt, binP, intP, indexAddrP, elemsOf, readCells, lenP, lenAt, resultsP, resultP, oneOr, reduceCtorEq, reduceIte, Nat.reduceEqDiff, Nat.reduceAdd, Nat.zero_add, Nat.reduceMul, Nat.reduceLT, Nat.reduceLeDiff, Int.reduceLT, Int.reduceNeg, Int.reduceLE, appendP, appendAt, letGo, setLoc, locVal, Int.reduceToNat, boxCells, und]) (by simp (maxSteps := 5000000) only [SA, SB, SD, R, guardAt, binP, intP, indexAddrP, elemsOf, readCells, lenP, lenAt, resultsP, resultP, oneOr, reduceCtorEq, reduceIte, Nat.reduceEqDiff, Nat.reduceAdd, Nat.zero_add, Nat.reduceMul, Nat.reduceLT, Nat.reduceLeDiff, Int.reduceLT, Int.reduceNeg, Int.reduceLE, appendP, appendAt, letGo, setLoc, locVal, Int.reduceToNat, boxCells, und]) (by simp (maxSteps := 5000000) only [SA, SB, SD, R, guardAt, binP, intP, indexAddrP, elemsOf, readCells, lenP, lenAt, resultsP, resultP, oneOr, reduceCtorEq, reduceIte, Nat.reduceEqDiff, Nat.reduceAdd, Nat.zero_add, Nat.reduceMul, Nat.reduceLT, Nat.reduceLeDiff, Int.reduceLT, Int.reduceNeg, Int.reduceLE, appendP, appendAt, letGo, setLoc, locVal, Int.reduceToNat, boxCells, und]) (by simp (maxSteps := 5000000) only [SA, SB, SD, R, guardAt, binP, intP, indexAddrP, elemsOf, readCells, lenP, lenAt, resultsP, resultP, oneOr, reduceCtorEq, reduceIte, Nat.reduceEqDiff, Nat.reduceAdd, Nat.zero_add, Nat.reduceMul, Nat.reduceLT, Nat.reduceLeDiff, Int.reduceLT, Int.reduceNeg, Int.reduceLE, appendP, appendAt, letGo, setLoc, locVal, Int.reduceToNat, boxCells, und]; rfl)
        clear hE hloop
        obtain ⟨hn0, hn1, e', he, g0, g4, g5⟩ := hP
        subst he
        have g5 := g5 (fun h => by cases h)
        simp (maxSteps := 5000000) only [SA, SB, SD, R, guardAt, binP, intP, indexAddrP, elemsOf, readCells, lenP, lenAt, resultsP, resultP, oneOr, reduceCtorEq, reduceIte, Nat.reduceEqDiff, Nat.reduceAdd, Nat.zero_add, Nat.reduceMul, Nat.reduceLT, Nat.reduceLeDiff, Int.reduceLT, Int.reduceNeg, Int.reduceLE, appendP, appendAt, letGo, setLoc, locVal, Int.reduceToNat, boxCells, und, TG, strP, g0, g4, g5, zz, Int.reduceBEq]
theorem op_R01_Parse (s : List UInt8) (hs : s.length ≤ maxLen) (bx) : callOp CC (callL CC) 71 [.str s] bx = some (.ret (.tup [.int .i64 (parseI s).1, .bool (parseI s).2]), bx) := callOp_of rfl (by simp only [SA, Bool.and_true]) (call_R01_Parse s hs) rfl
theorem satI_same {a : Int} (h1 : -1099511627776 ≤ a) (h2 : a ≤ 1099511627776) : satI a = a := (satI_iff a).2 ⟨by omega, by omega⟩
theorem pr_digit (l : List UInt8) (v : Nat) (h : v < 10) : ∀ (n m : Int), pr l n = some m → pr (l ++ [UInt8.ofNat (48 + v)]) n = some (10 * m + v) := by
  have hd : (UInt8.ofNat (48 + v)).toNat = 48 + v := by rw [UInt8.toNat_ofNat']; omega
  induction l with
  | nil =>
    intro n m e
    injection e with e
    subst e
    show pr [UInt8.ofNat (48 + v)] n = _
    unfold pr pr isD
    rw [hd, if_pos (by simp; omega)]
    congr 1
    omega
  | cons c r ih =>
    intro n m e
    rw [List.cons_append]
    unfold pr at e ⊢
    split at e
    · rename_i hc
      rw [if_pos hc]
      exact ih _ _ e
    · cases e
theorem pr_dec (u : Nat) : pr (Lib.decDigits u) 0 = some (u : Int) := by
  induction u using Nat.strongRecOn with
  | _ u ih =>
    by_cases hs : u < 10
    · rw [Lib.decDigits_one hs]
      have := pr_digit [] u hs 0 0 rfl
      simpa using this
    · rw [Lib.decDigits, dif_neg hs, pr_digit _ _ (by omega) _ _ (ih (u / 10) (by omega))]
      congr 1
      omega
theorem dec_head (u : Nat) : (Lib.decDigits u).head? ≠ some 45 := by
  induction u using Nat.strongRecOn with
  | _ u ih =>
    by_cases hs : u < 10
    · rw [Lib.decDigits_one hs, List.head?_cons]
      intro h
      injection h with h
      have := congrArg UInt8.toNat h
      rw [UInt8.toNat_ofNat'] at this
      have h45 : (45 : UInt8).toNat = 45 := rfl
      omega
    · rw [Lib.decDigits, dif_neg hs]
      have h1 := ih (u / 10) (by omega)
      have hl : (Lib.decDigits (u / 10)) ≠ [] := by
        intro h
        have := Lib.decDigits_length (u / 10)
        rw [h] at this
        have := Lib.nDigits_pos (u / 10)
        simp at *
        omega
      have : (Lib.decDigits (u / 10) ++ [UInt8.ofNat (48 + u % 10)]).head? = (Lib.decDigits (u / 10)).head? := by
        cases hq : Lib.decDigits (u / 10) with
        | nil => exact absurd hq hl
        | cons => rfl
      rw [this]
      exact h1
theorem dec_len (u : Nat) (h : u ≤ 1099511627776) : (Lib.decDigits u).length ≤ 13 := by
  rw [Lib.decDigits_length]
  rcases Nat.lt_or_ge 13 (Lib.nDigits u) with hn | hn
  · exfalso
    have gen : ∀ v : Nat, 1 ≤ v → 10 ^ (Lib.nDigits v - 1) ≤ v := by
      intro v
      induction v using Nat.strongRecOn with
      | _ v ih =>
        intro hv
        by_cases hs : v < 10
        · rw [Lib.nDigits_small hs]; simpa using hv
        · rw [Lib.nDigits_big hs, Nat.add_sub_cancel]
          have h1 := ih (v / 10) (by omega) (by omega)
          have h2 : Lib.nDigits (v / 10) = Lib.nDigits (v / 10) - 1 + 1 := by have := Lib.nDigits_pos (v / 10); omega
          rw [h2, Nat.pow_succ]
          omega
    have hp : 10 ^ 13 ≤ 10 ^ (Lib.nDigits u - 1) := Nat.pow_le_pow_right (by omega) (by omega)
    have := gen u (by rcases Nat.eq_zero_or_pos u with hz | hz; · subst hz; rw [Lib.nDigits_small (by omega)] at hn; omega
                      · exact hz)
    omega
  · exact hn
theorem dec_ne (u : Nat) : (Lib.decDigits u).length ≠ 0 := by rw [Lib.decDigits_length]; have := Lib.nDigits_pos u; omega
def inM (n : Int) : Prop := -1099511627776 ≤ n ∧ n ≤ 1099511627776
theorem parse_itoa (n : Int) : (inM n → parseI (Lib.itoa n) = (n, true)) ∧ (¬ inM n → parseI (Lib.itoa n) = (0, false)) := by
  have key : ¬ ((Lib.itoa n).length = 0 ∨ (Lib.itoa n).length > 14) → parseI (Lib.itoa n) = if satI n = n then (n, true) else (0, false) := by
    intro h
    unfold parseI
    rw [if_neg h, pl_zero]
    by_cases hn : n < 0
    · have e := itoa_neg hn
      have hh : (Lib.itoa n).head? = some 45 := by rw [e]; rfl
      have hd : (Lib.itoa n).drop 1 = Lib.decDigits n.natAbs := by rw [e]; rfl
      rw [if_pos hh, hd, pr_dec]
      simp only [hh, if_true]
      rw [show -((n.natAbs : Nat) : Int) = n from by omega]
      by_cases hs : satI n = n <;> simp [hs]
    · have e := itoa_nonneg hn
      have hh : ¬ (Lib.itoa n).head? = some 45 := by rw [e]; exact dec_head _
      rw [if_neg hh]
      have hp : pr (Lib.itoa n) 0 = some n := by rw [e, pr_dec]; congr 1; omega
      rw [hp]
      simp only [if_neg hh]
      by_cases hs : satI n = n <;> simp [hs]
  have hs := satI_iff n
  constructor
  · intro hm
    have hl : ¬ ((Lib.itoa n).length = 0 ∨ (Lib.itoa n).length > 14) := by
      by_cases hn : n < 0
      · rw [itoa_neg hn, List.length_cons]
        have := dec_len n.natAbs (by unfold inM at hm; omega)
        omega
      · rw [itoa_nonneg hn]
        have := dec_len n.toNat (by unfold inM at hm; omega)
        have := dec_ne n.toNat
        omega
    rw [key hl, if_pos (hs.2 ⟨by unfold inM at hm; omega, by unfold inM at hm; omega⟩)]
  · intro hm
    by_cases hl : (Lib.itoa n).length = 0 ∨ (Lib.itoa n).length > 14
    · unfold parseI; rw [if_pos hl]
    · rw [key hl, if_neg (fun h => hm (by have := hs.1 h; unfold inM; omega))]
end Go.HH
