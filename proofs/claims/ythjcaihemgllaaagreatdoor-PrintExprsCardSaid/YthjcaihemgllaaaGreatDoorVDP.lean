/-
  Decimal digits: Digits in the program and in the specification.
-/
import Derived.Test.YthjcaihemgllaaaGreatDoorVQP
namespace Go.HH
open Go Go.Proofs
set_option maxRecDepth 100000
set_option linter.unusedSimpArgs false
set_option linter.unusedVariables false
def satI (n : Int) : Int := if n > 1099511627776 then 1099511627776 else if n < -1099511627776 then -1099511627776 else n
theorem satI_le (n : Int) : -1099511627776 ≤ satI n ∧ satI n ≤ 1099511627776 := by unfold satI; split <;> (try split) <;> omega
theorem ok_num_Digits : fnOK CC Tryz.f83 (Tryz.f83.body.getD .skip) = true := by kernel_rfl
theorem fat_num_Digits : CC.P.funcs[83]? = some Tryz.f83 := by kernel_rfl
theorem ok_R01_Digits : fnOK CC Tryz.f41 (Tryz.f41.body.getD .skip) = true := by kernel_rfl
theorem fat_R01_Digits : CC.P.funcs[41]? = some Tryz.f41 := by kernel_rfl
theorem itoa_length {n : Int} (h : inI n) : (Lib.itoa n).length ≤ 21 := by
  have key : ∀ u : Nat, u ≤ 9223372036854775808 → (Lib.decDigits u).length ≤ 20 := by
    intro u hu
    rw [Lib.decDigits_length]
    rcases Nat.lt_or_ge 20 (Lib.nDigits u) with h | h
    · exfalso
      have hp : 10 ^ 20 ≤ 10 ^ (Lib.nDigits u - 1) := Nat.pow_le_pow_right (by omega) (by omega)
      have : 10 ^ (Lib.nDigits u - 1) ≤ u := by
        have gen : ∀ v : Nat, 1 ≤ v → 10 ^ (Lib.nDigits v - 1) ≤ v := by
          intro v
          induction v using Nat.strongRecOn with
          | _ v ih =>
            intro hv
            by_cases hs : v < 10
            · rw [Lib.nDigits_small hs]; simpa using hv
            · rw [Lib.nDigits_big hs, Nat.add_sub_cancel]
              have h1 := ih (v / 10) (by omega) (by omega)
              have h2 : Lib.nDigits (v / 10) = Lib.nDigits (v / 10) - 1 + 1 := by have := Lib.nDigits_pos (v / 10); omega
              rw [h2, Nat.pow_succ]
              omega
        apply gen
        rcases Nat.eq_zero_or_pos u with hz | hz
        · subst hz; rw [Lib.nDigits_small (by omega)] at h; omega
        · exact hz
      omega
    · exact h
  unfold Lib.itoa
  split
  · have := key n.natAbs (by omega)
    simp only [List.length_cons]
    omega
  · have := key n.toNat (by omega)
    omega
theorem call_num_Digits (n : Int) (h : inI n) : callL CC 83 [.int .i64 n] [] = some (.ret (.str (Lib.itoa n)), []) := by
  rw [callL_enter (fn := Tryz.f83) (c := Tryz.f83.body.getD .skip) rfl rfl fat_num_Digits rfl ok_num_Digits (Nat.le_of_ble_eq_true rfl)]
  obtain ⟨ev, eo, so, co, ⟨hev, hco⟩, R⟩ := RULES CC; rw [← hev]; have o_strconv_Itoa := @op_strconv_Itoa; rw [← hco] at o_strconv_Itoa
  have h1 := o_strconv_Itoa n h
  simp only [fpart, part', Tryz.f83, Option.getD]
  simp (maxSteps := 5000000) only [SA, SB, SD, R, guardAt, binP, intP, indexAddrP, elemsOf, readCells, lenP, lenAt, resultsP, resultP, oneOr, reduceCtorEq, reduceIte, Nat.reduceEqDiff, Nat.reduceAdd, Nat.zero_add, Nat.reduceMul, Nat.reduceLT, Nat.reduceLeDiff, Int.reduceLT, Int.reduceNeg, Int.reduceLE, appendP, appendAt, letGo, setLoc, locVal, Int.reduceToNat, boxCells, und, TG, h1]
theorem op_num_Digits (n : Int) (h : inI n) (bx) : callOp CC (callL CC) 83 [.int .i64 n] bx = some (.ret (.str (Lib.itoa n)), bx) := callOp_of rfl (by simp only [SA, Bool.and_true]) (call_num_Digits n h) rfl
theorem itoa_nonneg {n : Int} (h : ¬ n < 0) : Lib.itoa n = Lib.decDigits n.toNat := by unfold Lib.itoa; rw [if_neg h]
theorem itoa_neg {n : Int} (h : n < 0) : Lib.itoa n = 45 :: Lib.decDigits n.natAbs := by unfold Lib.itoa; rw [if_pos h]
theorem itoa_digit {n : Int} (h0 : 0 ≤ n) (h : n ≤ 9) : Lib.itoa n = [UInt8.ofNat (48 + n.toNat)] := by rw [itoa_nonneg (by omega), Lib.decDigits_one (by omega)]
theorem itoa_big {n : Int} (h : n > 9) : Lib.itoa n = Lib.itoa (n.tdiv 10) ++ Lib.itoa (n.tmod 10) := by
  have h1 : n.tdiv 10 = ((n.toNat / 10 : Nat) : Int) := by rw [Int.tdiv_eq_ediv_of_nonneg (by omega)]; omega
  have h2 : n.tmod 10 = ((n.toNat % 10 : Nat) : Int) := by rw [Int.tmod_eq_emod_of_nonneg (by omega)]; omega
  rw [h1, h2, itoa_nonneg (by omega), itoa_nonneg (by omega), itoa_digit (by omega) (by omega), Int.toNat_natCast, Int.toNat_natCast, Lib.decDigits, dif_neg (by omega)]
theorem itoa_small_neg {n : Int} (h : n < 0) (h2 : n > -10) : Lib.itoa n = [45] ++ Lib.itoa (0 - n) := by
  rw [itoa_neg h, itoa_nonneg (by omega), show n.natAbs = (0 - n).toNat from by omega]
  rfl
theorem itoa_big_neg {n : Int} (h2 : ¬ n > -10) : Lib.itoa n = Lib.itoa (n.tdiv 10) ++ Lib.itoa (0 - n.tmod 10) := by
  have h1 : n.tdiv 10 = -((n.natAbs / 10 : Nat) : Int) := by
    have : n = -((n.natAbs : Nat) : Int) := by omega
    rw [this, Int.neg_tdiv, Int.natAbs_neg, Int.natAbs_natCast]
    congr 1
  have h3 : n.tmod 10 = -((n.natAbs % 10 : Nat) : Int) := by
    have : n = -((n.natAbs : Nat) : Int) := by omega
    rw [this, Int.neg_tmod, Int.natAbs_neg, Int.natAbs_natCast]
    congr 1
  have hb : ¬ n.natAbs < 10 := by omega
  rw [h1, h3, itoa_neg (by omega), itoa_neg (by omega), itoa_digit (by omega) (by omega), Lib.decDigits, dif_neg hb]
  rw [show (-((n.natAbs / 10 : Nat) : Int)).natAbs = n.natAbs / 10 from by omega, show (0 - -((n.natAbs % 10 : Nat) : Int)).toNat = n.natAbs % 10 from by omega]
  rfl
theorem str_add {a b : List UInt8} (h : a.length + b.length ≤ 1000000) : strP .add a b = some (.str (a ++ b)) := by
  unfold strP maxStr
  simp only
  rw [if_pos (by omega)]
theorem conv_bys (l : List UInt8) : convP CC 70 9 (.sl (bys l)) = some (.str l) := by
  unfold convP
  simp only [TG, elemsOf, bytesOf_bys, Option.map_some]
theorem bys_one {n : Int} (h : 0 ≤ n ∧ n < 256) : [PV.int .u8 n] = bys [UInt8.ofNat n.toNat] := by
  unfold bys
  simp only [List.map_cons, List.map_nil]
  congr 2
  have : n.toNat < 256 := by omega
  simp [UInt8.toNat_ofNat']
  omega
theorem call_R01_Digits (m : Nat) : ∀ n : Int, inI n → n.natAbs + (if n < 0 then 1 else 0) ≤ m → callL CC 41 [.int .i64 n] [] = some (.ret (.str (Lib.itoa n)), []) := by
  induction m with
  | zero =>
    intro n hn hm
    have : n = 0 := by split at hm <;> omega
    subst this
    rw [callL_enter (fn := Tryz.f41) (c := Tryz.f41.body.getD .skip) rfl rfl fat_R01_Digits rfl ok_R01_Digits (Nat.le_of_ble_eq_true rfl)]
    obtain ⟨ev, eo, so, co, ⟨hev, hco⟩, R⟩ := RULES CC; rw [← hev]
    have e := itoa_digit (n := 0) (by omega) (by omega)
    have hc := conv_i_u8 48 ⟨by omega, by omega⟩
    have hb := conv_bys [48]
    have hw := wrap_i64 (n := 48) ⟨by omega, by omega⟩
    have h1 : [PV.int .u8 48] = bys [48] := rfl
    rw [e]
    simp only [fpart, part', Tryz.f41, Option.getD]
    simp (maxSteps := 5000000) only [SA, SB, SD, R, guardAt, binP, intP, indexAddrP, elemsOf, readCells, lenP, lenAt, resultsP, resultP, oneOr, reduceCtorEq, reduceIte, Nat.reduceEqDiff, Nat.reduceAdd, Nat.zero_add, Nat.reduceMul, Nat.reduceLT, Nat.reduceLeDiff, Int.reduceLT, Int.reduceNeg, Int.reduceLE, appendP, appendAt, letGo, setLoc, locVal, Int.reduceToNat, boxCells, und, TG, Int.reduceGT, Int.reduceAdd, hc, hw, bs_u8, h1, hb]
    rfl
  | succ m ih =>
    intro n hn hm
    have op := fun (k : Int) (h : inI k) (hk : k.natAbs + (if k < 0 then 1 else 0) ≤ m) (bx) => callOp_of (C := CC) (f := 41) (bx := bx) rfl (by simp only [SA, Bool.and_true]) (ih k h hk) rfl
    rw [callL_enter (fn := Tryz.f41) (c := Tryz.f41.body.getD .skip) rfl rfl fat_R01_Digits rfl ok_R01_Digits (Nat.le_of_ble_eq_true rfl)]
    by_cases c1 : n < 0
    · rw [if_pos c1] at hm
      by_cases c2 : n > -10
      · have o1 := op (-n) ⟨by omega, by omega⟩ (by rw [if_neg (by omega)]; omega)
        obtain ⟨ev, eo, so, co, ⟨hev, hco⟩, R⟩ := RULES CC; rw [← hev]
        rw [← hco] at o1
        have w := wrap_i64 (n := -n) ⟨by omega, by omega⟩
        have hl := itoa_length (n := -n) ⟨by omega, by omega⟩
        have e := itoa_small_neg c1 c2
        rw [Int.zero_sub] at e
        have sa := str_add (a := [45]) (b := Lib.itoa (-n)) (by simp; omega)
        rw [e]
        simp only [fpart, part', Tryz.f41, Option.getD]
        simp (maxSteps := 5000000) only [SA, SB, SD, R, guardAt, binP, intP, indexAddrP, elemsOf, readCells, lenP, lenAt, resultsP, resultP, oneOr, reduceCtorEq, reduceIte, Nat.reduceEqDiff, Nat.reduceAdd, Nat.zero_add, Nat.reduceMul, Nat.reduceLT, Nat.reduceLeDiff, Int.reduceLT, Int.reduceNeg, Int.reduceLE, appendP, appendAt, letGo, setLoc, locVal, Int.reduceToNat, boxCells, und, TG, unP, c1, c2, w, o1, sa, Int.zero_sub]
      · have ha : (n.tdiv 10).natAbs = n.natAbs / 10 := by rw [Int.natAbs_tdiv]; rfl
        have hb : n.tmod 10 = -((n.natAbs % 10 : Nat) : Int) := by
          have : n = -((n.natAbs : Nat) : Int) := by omega
          rw [this, Int.neg_tmod, Int.natAbs_neg, Int.natAbs_natCast]
          congr 1
        have hd : n.tdiv 10 ≤ 0 := by
          have h := Int.tdiv_nonneg (a := -n) (b := 10) (by omega) (by omega)
          rw [Int.neg_tdiv] at h
          omega
        have o1 := op (n.tdiv 10) ⟨by omega, by omega⟩ (by split <;> omega)
        have o2 := op (0 - n.tmod 10) ⟨by omega, by omega⟩ (by rw [if_neg (by omega)]; omega)
        obtain ⟨ev, eo, so, co, ⟨hev, hco⟩, R⟩ := RULES CC; rw [← hev]
        rw [← hco] at o1 o2
        have w := wrap_i64 (n := n.tdiv 10) ⟨by omega, by omega⟩
        have w2 := wrap_i64 (n := 0 - n.tmod 10) ⟨by omega, by omega⟩
        have hl1 := itoa_length (n := n.tdiv 10) ⟨by omega, by omega⟩
        have hl2 := itoa_length (n := 0 - n.tmod 10) ⟨by omega, by omega⟩
        have e := itoa_big_neg c2
        have sa := str_add (a := Lib.itoa (n.tdiv 10)) (b := Lib.itoa (0 - n.tmod 10)) (by omega)
        rw [e]
        simp only [fpart, part', Tryz.f41, Option.getD]
        simp (maxSteps := 5000000) only [SA, SB, SD, R, guardAt, binP, intP, indexAddrP, elemsOf, readCells, lenP, lenAt, resultsP, resultP, oneOr, reduceCtorEq, reduceIte, Nat.reduceEqDiff, Nat.reduceAdd, Nat.zero_add, Nat.reduceMul, Nat.reduceLT, Nat.reduceLeDiff, Int.reduceLT, Int.reduceNeg, Int.reduceLE, appendP, appendAt, letGo, setLoc, locVal, Int.reduceToNat, boxCells, und, TG, unP, c1, c2, w, w2, o1, o2, sa, Int.reduceEq]
    · rw [if_neg c1] at hm
      by_cases c2 : n > 9
      · have h1 : n.tdiv 10 = n / 10 := Int.tdiv_eq_ediv_of_nonneg (by omega)
        have h2 : n.tmod 10 = n % 10 := Int.tmod_eq_emod_of_nonneg (by omega)
        have o1 := op (n.tdiv 10) ⟨by omega, by omega⟩ (by rw [if_neg (by omega)]; omega)
        have o2 := op (n.tmod 10) ⟨by omega, by omega⟩ (by rw [if_neg (by omega)]; omega)
        obtain ⟨ev, eo, so, co, ⟨hev, hco⟩, R⟩ := RULES CC; rw [← hev]
        rw [← hco] at o1 o2
        have w := wrap_i64 (n := n.tdiv 10) ⟨by omega, by omega⟩
        have w2 := wrap_i64 (n := n.tmod 10) ⟨by omega, by omega⟩
        have hl1 := itoa_length (n := n.tdiv 10) ⟨by omega, by omega⟩
        have hl2 := itoa_length (n := n.tmod 10) ⟨by omega, by omega⟩
        have e := itoa_big c2
        have sa := str_add (a := Lib.itoa (n.tdiv 10)) (b := Lib.itoa (n.tmod 10)) (by omega)
        rw [e]
        simp only [fpart, part', Tryz.f41, Option.getD]
        simp (maxSteps := 5000000) only [SA, SB, SD, R, guardAt, binP, intP, indexAddrP, elemsOf, readCells, lenP, lenAt, resultsP, resultP, oneOr, reduceCtorEq, reduceIte, Nat.reduceEqDiff, Nat.reduceAdd, Nat.zero_add, Nat.reduceMul, Nat.reduceLT, Nat.reduceLeDiff, Int.reduceLT, Int.reduceNeg, Int.reduceLE, appendP, appendAt, letGo, setLoc, locVal, Int.reduceToNat, boxCells, und, TG, unP, c1, c2, w, w2, o1, o2, sa, Int.reduceEq]
      · obtain ⟨ev, eo, so, co, ⟨hev, hco⟩, R⟩ := RULES CC; rw [← hev]
        have e := itoa_digit (n := n) (by omega) (by omega)
        have hw := wrap_i64 (n := 48 + n) ⟨by omega, by omega⟩
        have hc := conv_i_u8 (48 + n) ⟨by omega, by omega⟩
        have h1 := bys_one (n := 48 + n) ⟨by omega, by omega⟩
        have hb := conv_bys [UInt8.ofNat (48 + n).toNat]
        have h48 : (48 + n).toNat = 48 + n.toNat := by omega
        rw [h48] at h1 hb
        rw [e]
        simp only [fpart, part', Tryz.f41, Option.getD]
        simp (maxSteps := 5000000) only [SA, SB, SD, R, guardAt, binP, intP, indexAddrP, elemsOf, readCells, lenP, lenAt, resultsP, resultP, oneOr, reduceCtorEq, reduceIte, Nat.reduceEqDiff, Nat.reduceAdd, Nat.zero_add, Nat.reduceMul, Nat.reduceLT, Nat.reduceLeDiff, Int.reduceLT, Int.reduceNeg, Int.reduceLE, appendP, appendAt, letGo, setLoc, locVal, Int.reduceToNat, boxCells, und, TG, c1, c2, hw, hc, bs_u8, h1, hb, h48]
theorem op_R01_Digits (n : Int) (h : inI n) (bx) : callOp CC (callL CC) 41 [.int .i64 n] bx = some (.ret (.str (Lib.itoa n)), bx) := callOp_of rfl (by simp only [SA, Bool.and_true]) (call_R01_Digits _ n h (Nat.le_refl _)) rfl
theorem ix_str0 (s : List UInt8) (b : UInt8) (h : s[0]? = some b) : indexV CC 9 (.str s) (.int .i64 0) = some (.int .u8 (b.toNat : Int)) := ix_str s 0 b h
def isD (c : UInt8) : Bool := decide (48 ≤ c.toNat) && decide (c.toNat ≤ 57)
/-- the digits of the program's loop -/
def pl : List UInt8 → Nat → Int → Option Int
  | [], _, n => some n
  | c :: r, i, n => if isD c then pl r (i + 1) (10 * n + ((c.toNat : Int) - 48)) else if i > 0 ∨ c.toNat ≠ 45 then none else pl r (i + 1) n
/-- the digits of the reference's loop -/
def pr : List UInt8 → Int → Option Int
  | [], n => some n
  | c :: r, n => if isD c then pr r (10 * n + ((c.toNat : Int) - 48)) else none
theorem pl_pr : ∀ (l : List UInt8) (i : Nat) (n : Int), 0 < i → pl l i n = pr l n
  | [], _, _, _ => rfl
  | c :: r, i, n, h => by
    unfold pl pr
    rw [pl_pr r (i + 1) _ (by omega), if_pos (Or.inl h)]
theorem pow_step {n : Int} {i : Nat} {d : Int} (h0 : 0 ≤ n) (h : n < 10 ^ i) (hd : 0 ≤ d ∧ d ≤ 9) : 0 ≤ 10 * n + d ∧ 10 * n + d < 10 ^ (i + 1) := by
  have : (10 : Int) ^ (i + 1) = 10 * 10 ^ i := by rw [Int.pow_succ]; omega
  rw [this]
  omega
theorem pow_cap {n : Int} {i : Nat} (hi : i ≤ 14) (h : n < 10 ^ i) : n < 100000000000000 := by
  have h1 : (10 : Int) ^ i ≤ 10 ^ 14 := by
    have := Nat.pow_le_pow_right (n := 10) (by omega) hi
    exact_mod_cast this
  have h2 : (10 : Int) ^ 14 = 100000000000000 := by decide
  omega
/-- what a loop over digits comes to -/
def PP (s : List UInt8) (f : PV) (o : Option Int) (r : Option (Ex × St)) : Prop := match o with
  | some n => 0 ≤ n ∧ n < 100000000000000 ∧ ∃ e, r = some (.exit 0, ⟨e, []⟩) ∧ getT e 0 = .str s ∧ getT e 4 = .int .i64 n ∧ (f ≠ .top → getT e 5 = f)
  | none => ∃ e, r = some (.ret, ⟨e, []⟩) ∧ getT e 2 = .int .i64 0 ∧ getT e 3 = .bool false
/-- what both say of a text -/
def parseI (s : List UInt8) : Int × Bool :=
  if s.length = 0 ∨ s.length > 14 then (0, false)
  else match pl s 0 0 with
    | none => (0, false)
    | some n => let m := if s.head? = some 45 then -n else n
      if satI m = m ∧ Lib.itoa m = s then (m, true) else (0, false)
theorem pl_zero (s : List UInt8) : pl s 0 0 = if s.head? = some 45 then pr (s.drop 1) 0 else pr s 0 := by
  cases s with
  | nil => rfl
  | cons c r =>
    have hc : c.toNat = 45 ↔ c = 45 := by rw [← UInt8.toNat_inj]; rfl
    by_cases h : c = 45
    · subst h
      rw [if_pos (show (45 :: r).head? = some 45 from rfl)]
      show pl (45 :: r) 0 0 = pr r 0
      rw [pl, if_neg (by decide), if_neg (by decide), pl_pr _ _ _ (by omega)]
    · have hn : ¬ c.toNat = 45 := fun e => h (hc.1 e)
      rw [if_neg (by simpa using h), pl, pr, pl_pr _ _ _ (by omega)]
      split
      · rfl
      · rw [if_pos (Or.inr hn)]
theorem satI_iff (m : Int) : satI m = m ↔ ¬ m > 1099511627776 ∧ ¬ m < -1099511627776 := by
  unfold satI
  split
  · omega
  · split <;> omega
end Go.HH
