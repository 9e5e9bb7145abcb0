/-
  Numbers: digits.
-/
import Derived.Test.YthfcokfigmpanaaDoorN4
namespace Go.HH
open Go Go.Proofs
set_option maxRecDepth 100000
set_option linter.unusedSimpArgs false
set_option linter.unusedVariables false
theorem ok_num_Digits : fnOK CC Tryd.f17 (Tryd.f17.body.getD .skip) = true := by kernel_rfl
theorem fat_num_Digits : CC.P.funcs[17]? = some Tryd.f17 := by kernel_rfl
theorem ok_R01_Digits : fnOK CC Tryd.f18 (Tryd.f18.body.getD .skip) = true := by kernel_rfl
theorem fat_R01_Digits : CC.P.funcs[18]? = some Tryd.f18 := by kernel_rfl
/-- a list of bytes -/
def bys (l : List UInt8) : List PV := l.map fun b => .int .u8 b.toNat
theorem bytesOf_bys (l : List UInt8) : bytesOf (bys l) = some l := by
  induction l with
  | nil => rfl
  | cons b r ih =>
    show (bytesOf (bys r)).map (UInt8.ofNat ((b.toNat : Int)).toNat :: ·) = some (b :: r)
    rw [ih, Int.toNat_natCast, UInt8.ofNat_toNat]
    rfl
theorem itoa_length {n : Int} (h : inI n) : (Lib.itoa n).length ≤ 21 := by
  have key : ∀ u : Nat, u ≤ 9223372036854775808 → (Lib.decDigits u).length ≤ 20 := by
    intro u hu
    rw [Lib.decDigits_length]
    rcases Nat.lt_or_ge 20 (Lib.nDigits u) with h | h
    · exfalso
      have hp : 10 ^ 20 ≤ 10 ^ (Lib.nDigits u - 1) := Nat.pow_le_pow_right (by omega) (by omega)
      have : 10 ^ (Lib.nDigits u - 1) ≤ u := by
        have gen : ∀ v : Nat, 1 ≤ v → 10 ^ (Lib.nDigits v - 1) ≤ v := by
          intro v
          induction v using Nat.strongRecOn with
          | _ v ih =>
            intro hv
            by_cases hs : v < 10
            · rw [Lib.nDigits_small hs]; simpa using hv
            · rw [Lib.nDigits_big hs, Nat.add_sub_cancel]
              have h1 := ih (v / 10) (by omega) (by omega)
              have h2 : Lib.nDigits (v / 10) = Lib.nDigits (v / 10) - 1 + 1 := by have := Lib.nDigits_pos (v / 10); omega
              rw [h2, Nat.pow_succ]
              omega
        apply gen
        rcases Nat.eq_zero_or_pos u with hz | hz
        · subst hz; rw [Lib.nDigits_small (by omega)] at h; omega
        · exact hz
      omega
    · exact h
  unfold Lib.itoa
  split
  · have := key n.natAbs (by omega)
    simp only [List.length_cons]
    omega
  · have := key n.toNat (by omega)
    omega
theorem call_num_Digits (n : Int) (h : inI n) : callL CC 17 [.int .i64 n] [] = some (.ret (.str (Lib.itoa n)), []) := by
  rw [callL_enter (fn := Tryd.f17) (c := Tryd.f17.body.getD .skip) rfl fat_num_Digits rfl ok_num_Digits (Nat.le_of_ble_eq_true rfl)]
  obtain ⟨ev, eo, so, co, ⟨hev, hco⟩, R⟩ := RULES CC; rw [← hev]; have o_strconv_Itoa := @op_strconv_Itoa; rw [← hco] at o_strconv_Itoa
  have h1 := o_strconv_Itoa n h
  simp only [fpart, part', Tryd.f17, Option.getD]
  simp (maxSteps := 5000000) only [SA, SB, SD, R, guardAt, binP, intP, indexAddrP, elemsOf, readCells, lenP, lenAt, resultsP, resultP, oneOr, reduceCtorEq, reduceIte, Nat.reduceEqDiff, Nat.reduceAdd, Nat.zero_add, Nat.reduceMul, Nat.reduceLT, Nat.reduceLeDiff, Int.reduceLT, Int.reduceNeg, Int.reduceLE, appendP, appendAt, letGo, setLoc, locVal, Int.reduceToNat, boxCells, und, TG, h1]
theorem op_num_Digits (n : Int) (h : inI n) (bx) : callOp CC (callL CC) 17 [.int .i64 n] bx = some (.ret (.str (Lib.itoa n)), bx) := callOp_of rfl (by simp only [SA, Bool.and_true]) (call_num_Digits n h) rfl
theorem itoa_nonneg {n : Int} (h : ¬ n < 0) : Lib.itoa n = Lib.decDigits n.toNat := by unfold Lib.itoa; rw [if_neg h]
theorem itoa_neg {n : Int} (h : n < 0) : Lib.itoa n = 45 :: Lib.decDigits n.natAbs := by unfold Lib.itoa; rw [if_pos h]
theorem itoa_digit {n : Int} (h0 : 0 ≤ n) (h : n ≤ 9) : Lib.itoa n = [UInt8.ofNat (48 + n.toNat)] := by rw [itoa_nonneg (by omega), Lib.decDigits_one (by omega)]
theorem itoa_big {n : Int} (h : n > 9) : Lib.itoa n = Lib.itoa (n.tdiv 10) ++ Lib.itoa (n.tmod 10) := by
  have h1 : n.tdiv 10 = ((n.toNat / 10 : Nat) : Int) := by rw [Int.tdiv_eq_ediv_of_nonneg (by omega)]; omega
  have h2 : n.tmod 10 = ((n.toNat % 10 : Nat) : Int) := by rw [Int.tmod_eq_emod_of_nonneg (by omega)]; omega
  rw [h1, h2, itoa_nonneg (by omega), itoa_nonneg (by omega), itoa_digit (by omega) (by omega), Int.toNat_natCast, Int.toNat_natCast, Lib.decDigits, dif_neg (by omega)]
theorem itoa_small_neg {n : Int} (h : n < 0) (h2 : n > -10) : Lib.itoa n = [45] ++ Lib.itoa (0 - n) := by
  rw [itoa_neg h, itoa_nonneg (by omega), show n.natAbs = (0 - n).toNat from by omega]
  rfl
theorem itoa_big_neg {n : Int} (h2 : ¬ n > -10) : Lib.itoa n = Lib.itoa (n.tdiv 10) ++ Lib.itoa (0 - n.tmod 10) := by
  have h1 : n.tdiv 10 = -((n.natAbs / 10 : Nat) : Int) := by
    have : n = -((n.natAbs : Nat) : Int) := by omega
    rw [this, Int.neg_tdiv, Int.natAbs_neg, Int.natAbs_natCast]
    congr 1
  have h3 : n.tmod 10 = -((n.natAbs % 10 : Nat) : Int) := by
    have : n = -((n.natAbs : Nat) : Int) := by omega
    rw [this, Int.neg_tmod, Int.natAbs_neg, Int.natAbs_natCast]
    congr 1
  have hb : ¬ n.natAbs < 10 := by omega
  rw [h1, h3, itoa_neg (by omega), itoa_neg (by omega), itoa_digit (by omega) (by omega), Lib.decDigits, dif_neg hb]
  rw [show (-((n.natAbs / 10 : Nat) : Int)).natAbs = n.natAbs / 10 from by omega, show (0 - -((n.natAbs % 10 : Nat) : Int)).toNat = n.natAbs % 10 from by omega]
  rfl
theorem str_add {a b : List UInt8} (h : a.length + b.length ≤ 1000000) : strP .add a b = some (.str (a ++ b)) := by
  unfold strP maxStr
  simp only
  rw [if_pos (by omega)]
theorem bs_u8 (n : Int) : buildSliceP CC 38 1 [(0, .int .u8 n)] = some (.osl 5 [.int .u8 n]) := by
  have h0 : buildSliceP CC 38 1 [(0, .int .u8 0)] = some (.osl 5 [.int .u8 0]) := by kernel_rfl
  have hz : tZero CC 5 = some (.int .u8 0) := by kernel_rfl
  have hi : ∃ i, CC.P.info? 5 = some i ∧ i.size = 1 := ⟨(Tryd.prog.info? 5).getD default, by kernel_rfl, by kernel_rfl⟩
  obtain ⟨i, hi, hs⟩ := hi
  unfold buildSliceP
  simp only [TG, hz, hi, hs]
  rfl
theorem conv_i_u8 (n : Int) (h : 0 ≤ n ∧ n < 256) : convP CC 3 5 (.int .i64 n) = some (.int .u8 n) := by
  have w : IntKind.wrap .u8 n = n := by simp [IntKind.wrap, IntKind.bits, IntKind.signed]; omega
  unfold convP
  simp only [TG, w]
theorem conv_u8_i (n : Int) (h : 0 ≤ n ∧ n < 256) : convP CC 5 3 (.int .u8 n) = some (.int .i64 n) := by
  unfold convP
  simp only [TG, wrap_i64 (n := n) ⟨by omega, by omega⟩]
theorem conv_bys (l : List UInt8) : convP CC 38 9 (.sl (bys l)) = some (.str l) := by
  unfold convP
  simp only [TG, elemsOf, bytesOf_bys, Option.map_some]
theorem bys_one {n : Int} (h : 0 ≤ n ∧ n < 256) : [PV.int .u8 n] = bys [UInt8.ofNat n.toNat] := by
  unfold bys
  simp only [List.map_cons, List.map_nil]
  congr 2
  have : n.toNat < 256 := by omega
  simp [UInt8.toNat_ofNat']
  omega
theorem call_R01_Digits (m : Nat) : ∀ n : Int, inI n → n.natAbs + (if n < 0 then 1 else 0) ≤ m → callL CC 18 [.int .i64 n] [] = some (.ret (.str (Lib.itoa n)), []) := by
  induction m with
  | zero =>
    intro n hn hm
    have : n = 0 := by split at hm <;> omega
    subst this
    rw [callL_enter (fn := Tryd.f18) (c := Tryd.f18.body.getD .skip) rfl fat_R01_Digits rfl ok_R01_Digits (Nat.le_of_ble_eq_true rfl)]
    obtain ⟨ev, eo, so, co, ⟨hev, hco⟩, R⟩ := RULES CC; rw [← hev]
    have e := itoa_digit (n := 0) (by omega) (by omega)
    have hc := conv_i_u8 48 ⟨by omega, by omega⟩
    have hb := conv_bys [48]
    have hw := wrap_i64 (n := 48) ⟨by omega, by omega⟩
    have h1 : [PV.int .u8 48] = bys [48] := rfl
    rw [e]
    simp only [fpart, part', Tryd.f18, Option.getD]
    simp (maxSteps := 5000000) only [SA, SB, SD, R, guardAt, binP, intP, indexAddrP, elemsOf, readCells, lenP, lenAt, resultsP, resultP, oneOr, reduceCtorEq, reduceIte, Nat.reduceEqDiff, Nat.reduceAdd, Nat.zero_add, Nat.reduceMul, Nat.reduceLT, Nat.reduceLeDiff, Int.reduceLT, Int.reduceNeg, Int.reduceLE, appendP, appendAt, letGo, setLoc, locVal, Int.reduceToNat, boxCells, und, TG, Int.reduceGT, Int.reduceAdd, hc, hw, bs_u8, h1, hb]
    rfl
  | succ m ih =>
    intro n hn hm
    have op := fun (k : Int) (h : inI k) (hk : k.natAbs + (if k < 0 then 1 else 0) ≤ m) (bx) => callOp_of (C := CC) (f := 18) (bx := bx) rfl (by simp only [SA, Bool.and_true]) (ih k h hk) rfl
    rw [callL_enter (fn := Tryd.f18) (c := Tryd.f18.body.getD .skip) rfl fat_R01_Digits rfl ok_R01_Digits (Nat.le_of_ble_eq_true rfl)]
    by_cases c1 : n < 0
    · rw [if_pos c1] at hm
      by_cases c2 : n > -10
      · have o1 := op (-n) ⟨by omega, by omega⟩ (by rw [if_neg (by omega)]; omega)
        obtain ⟨ev, eo, so, co, ⟨hev, hco⟩, R⟩ := RULES CC; rw [← hev]
        rw [← hco] at o1
        have w := wrap_i64 (n := -n) ⟨by omega, by omega⟩
        have hl := itoa_length (n := -n) ⟨by omega, by omega⟩
        have e := itoa_small_neg c1 c2
        rw [Int.zero_sub] at e
        have sa := str_add (a := [45]) (b := Lib.itoa (-n)) (by simp; omega)
        rw [e]
        simp only [fpart, part', Tryd.f18, Option.getD]
        simp (maxSteps := 5000000) only [SA, SB, SD, R, guardAt, binP, intP, indexAddrP, elemsOf, readCells, lenP, lenAt, resultsP, resultP, oneOr, reduceCtorEq, reduceIte, Nat.reduceEqDiff, Nat.reduceAdd, Nat.zero_add, Nat.reduceMul, Nat.reduceLT, Nat.reduceLeDiff, Int.reduceLT, Int.reduceNeg, Int.reduceLE, appendP, appendAt, letGo, setLoc, locVal, Int.reduceToNat, boxCells, und, TG, unP, c1, c2, w, o1, sa, Int.zero_sub]
      · have ha : (n.tdiv 10).natAbs = n.natAbs / 10 := by rw [Int.natAbs_tdiv]; rfl
        have hb : n.tmod 10 = -((n.natAbs % 10 : Nat) : Int) := by
          have : n = -((n.natAbs : Nat) : Int) := by omega
          rw [this, Int.neg_tmod, Int.natAbs_neg, Int.natAbs_natCast]
          congr 1
        have hd : n.tdiv 10 ≤ 0 := by
          have h := Int.tdiv_nonneg (a := -n) (b := 10) (by omega) (by omega)
          rw [Int.neg_tdiv] at h
          omega
        have o1 := op (n.tdiv 10) ⟨by omega, by omega⟩ (by split <;> omega)
        have o2 := op (0 - n.tmod 10) ⟨by omega, by omega⟩ (by rw [if_neg (by omega)]; omega)
        obtain ⟨ev, eo, so, co, ⟨hev, hco⟩, R⟩ := RULES CC; rw [← hev]
        rw [← hco] at o1 o2
        have w := wrap_i64 (n := n.tdiv 10) ⟨by omega, by omega⟩
        have w2 := wrap_i64 (n := 0 - n.tmod 10) ⟨by omega, by omega⟩
        have hl1 := itoa_length (n := n.tdiv 10) ⟨by omega, by omega⟩
        have hl2 := itoa_length (n := 0 - n.tmod 10) ⟨by omega, by omega⟩
        have e := itoa_big_neg c2
        have sa := str_add (a := Lib.itoa (n.tdiv 10)) (b := Lib.itoa (0 - n.tmod 10)) (by omega)
        rw [e]
        simp only [fpart, part', Tryd.f18, Option.getD]
        simp (maxSteps := 5000000) only [SA, SB, SD, R, guardAt, binP, intP, indexAddrP, elemsOf, readCells, lenP, lenAt, resultsP, resultP, oneOr, reduceCtorEq, reduceIte, Nat.reduceEqDiff, Nat.reduceAdd, Nat.zero_add, Nat.reduceMul, Nat.reduceLT, Nat.reduceLeDiff, Int.reduceLT, Int.reduceNeg, Int.reduceLE, appendP, appendAt, letGo, setLoc, locVal, Int.reduceToNat, boxCells, und, TG, unP, c1, c2, w, w2, o1, o2, sa, Int.reduceEq]
    · rw [if_neg c1] at hm
      by_cases c2 : n > 9
      · have h1 : n.tdiv 10 = n / 10 := Int.tdiv_eq_ediv_of_nonneg (by omega)
        have h2 : n.tmod 10 = n % 10 := Int.tmod_eq_emod_of_nonneg (by omega)
        have o1 := op (n.tdiv 10) ⟨by omega, by omega⟩ (by rw [if_neg (by omega)]; omega)
        have o2 := op (n.tmod 10) ⟨by omega, by omega⟩ (by rw [if_neg (by omega)]; omega)
        obtain ⟨ev, eo, so, co, ⟨hev, hco⟩, R⟩ := RULES CC; rw [← hev]
        rw [← hco] at o1 o2
        have w := wrap_i64 (n := n.tdiv 10) ⟨by omega, by omega⟩
        have w2 := wrap_i64 (n := n.tmod 10) ⟨by omega, by omega⟩
        have hl1 := itoa_length (n := n.tdiv 10) ⟨by omega, by omega⟩
        have hl2 := itoa_length (n := n.tmod 10) ⟨by omega, by omega⟩
        have e := itoa_big c2
        have sa := str_add (a := Lib.itoa (n.tdiv 10)) (b := Lib.itoa (n.tmod 10)) (by omega)
        rw [e]
        simp only [fpart, part', Tryd.f18, Option.getD]
        simp (maxSteps := 5000000) only [SA, SB, SD, R, guardAt, binP, intP, indexAddrP, elemsOf, readCells, lenP, lenAt, resultsP, resultP, oneOr, reduceCtorEq, reduceIte, Nat.reduceEqDiff, Nat.reduceAdd, Nat.zero_add, Nat.reduceMul, Nat.reduceLT, Nat.reduceLeDiff, Int.reduceLT, Int.reduceNeg, Int.reduceLE, appendP, appendAt, letGo, setLoc, locVal, Int.reduceToNat, boxCells, und, TG, unP, c1, c2, w, w2, o1, o2, sa, Int.reduceEq]
      · obtain ⟨ev, eo, so, co, ⟨hev, hco⟩, R⟩ := RULES CC; rw [← hev]
        have e := itoa_digit (n := n) (by omega) (by omega)
        have hw := wrap_i64 (n := 48 + n) ⟨by omega, by omega⟩
        have hc := conv_i_u8 (48 + n) ⟨by omega, by omega⟩
        have h1 := bys_one (n := 48 + n) ⟨by omega, by omega⟩
        have hb := conv_bys [UInt8.ofNat (48 + n).toNat]
        have h48 : (48 + n).toNat = 48 + n.toNat := by omega
        rw [h48] at h1 hb
        rw [e]
        simp only [fpart, part', Tryd.f18, Option.getD]
        simp (maxSteps := 5000000) only [SA, SB, SD, R, guardAt, binP, intP, indexAddrP, elemsOf, readCells, lenP, lenAt, resultsP, resultP, oneOr, reduceCtorEq, reduceIte, Nat.reduceEqDiff, Nat.reduceAdd, Nat.zero_add, Nat.reduceMul, Nat.reduceLT, Nat.reduceLeDiff, Int.reduceLT, Int.reduceNeg, Int.reduceLE, appendP, appendAt, letGo, setLoc, locVal, Int.reduceToNat, boxCells, und, TG, c1, c2, hw, hc, bs_u8, h1, hb, h48]
theorem op_R01_Digits (n : Int) (h : inI n) (bx) : callOp CC (callL CC) 18 [.int .i64 n] bx = some (.ret (.str (Lib.itoa n)), bx) := callOp_of rfl (by simp only [SA, Bool.and_true]) (call_R01_Digits _ n h (Nat.le_refl _)) rfl
end Go.HH
