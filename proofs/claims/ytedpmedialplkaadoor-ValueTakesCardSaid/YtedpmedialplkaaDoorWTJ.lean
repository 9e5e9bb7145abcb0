/-
  Joined: W1, W2, W3, W4, W5.
-/
import Derived.Test.YtedpmedialplkaaDoorVQS
import Derived.Test.YtedpmedialplkaaDoorV8S
namespace Go.HH
open Go Go.Proofs
set_option maxRecDepth 100000
set_option linter.unusedSimpArgs false
set_option linter.unusedVariables false
theorem ok_wire_Int : fnOK CC Tryd.f29 (Tryd.f29.body.getD .skip) = true := by kernel_rfl
theorem fat_wire_Int : CC.P.funcs[29]? = some Tryd.f29 := by kernel_rfl
theorem ok_R02_Int : fnOK CC Tryd.f48 (Tryd.f48.body.getD .skip) = true := by kernel_rfl
theorem fat_R02_Int : CC.P.funcs[48]? = some Tryd.f48 := by kernel_rfl
theorem ok_wire_Text : fnOK CC Tryd.f47 (Tryd.f47.body.getD .skip) = true := by kernel_rfl
theorem fat_wire_Text : CC.P.funcs[47]? = some Tryd.f47 := by kernel_rfl
theorem ok_R02_Text : fnOK CC Tryd.f49 (Tryd.f49.body.getD .skip) = true := by kernel_rfl
theorem fat_R02_Text : CC.P.funcs[49]? = some Tryd.f49 := by kernel_rfl
/-- the bytes of a number without sign, seven bits each -/
def encF : Nat → Nat → List UInt8
  | 0, u => [UInt8.ofNat u]
  | k + 1, u => if u < 128 then [UInt8.ofNat u] else UInt8.ofNat (u % 128 + 128) :: encF k (u / 128)
/-- the zigzag form -/
def zz (n : Int) : Nat := if 0 ≤ n then (2 * n).toNat else (-2 * n - 1).toNat
def encI (n : Int) : List UInt8 := encF 9 (zz n)
theorem zz_lt {n : Int} (h : inI n) : zz n < 18446744073709551616 := by unfold inI at h; unfold zz; split <;> omega
theorem encF_len : ∀ k u, (encF k u).length ≤ k + 1
  | 0, _ => by simp [encF]
  | k + 1, u => by
    unfold encF
    split
    · simp
    · have := encF_len k (u / 128)
      rw [List.length_cons]; omega
theorem encI_len (n : Int) : (encI n).length ≤ 10 := encF_len 9 _
theorem wrap_u64' {n : Int} (h : 0 ≤ n ∧ n < 18446744073709551616) : IntKind.wrap .u64 n = n := wrap_u64 h
theorem wrap_u8' {n : Int} (h : 0 ≤ n ∧ n < 256) : IntKind.wrap .u8 n = n := by
  obtain ⟨h1, h2⟩ := h
  simp [IntKind.wrap, IntKind.bits, IntKind.signed]
  omega
theorem conv_i_u64 (n : Int) : convP CC 3 60 (.int .i64 n) = some (.int .u64 (IntKind.wrap .u64 n)) := by
  have h1 : CC.P.underlying 3 = some (.int .i64) := by kernel_rfl
  have h2 : CC.P.underlying 60 = some (.int .u64) := by kernel_rfl
  unfold convP
  rw [h1, h2]
theorem conv_u64_i (n : Int) : convP CC 60 3 (.int .u64 n) = some (.int .i64 (IntKind.wrap .i64 n)) := by
  have h1 : CC.P.underlying 3 = some (.int .i64) := by kernel_rfl
  have h2 : CC.P.underlying 60 = some (.int .u64) := by kernel_rfl
  unfold convP
  rw [h1, h2]
theorem conv_u64_u8 (u : Nat) : convP CC 60 5 (.int .u64 (u : Int)) = some (.int .u8 ((u % 256 : Nat) : Int)) := by
  have h1 : CC.P.underlying 5 = some (.int .u8) := by kernel_rfl
  have h2 : CC.P.underlying 60 = some (.int .u64) := by kernel_rfl
  unfold convP
  rw [h1, h2]
  simp only [IntKind.wrap, IntKind.bits, IntKind.signed]
  congr 2
theorem conv_u8_u64 (u : Nat) (h : u < 256) : convP CC 5 60 (.int .u8 (u : Int)) = some (.int .u64 (u : Int)) := by
  have h1 : CC.P.underlying 5 = some (.int .u8) := by kernel_rfl
  have h2 : CC.P.underlying 60 = some (.int .u64) := by kernel_rfl
  unfold convP
  rw [h1, h2]
  simp only
  rw [wrap_u64 ⟨by omega, by omega⟩]
theorem xor_def (x y : Int) : bitsP .xor .u64 x y = some (IntKind.wrap .u64 (((BitVec.ofInt 64 x ^^^ BitVec.ofInt 64 y : BitVec 64)).toNat : Int)) := rfl
theorem xor_zero (a : Nat) (h : a < 18446744073709551616) : bitsP .xor .u64 (a : Int) 0 = some (a : Int) := by
  rw [xor_def]
  have e0 : BitVec.ofInt 64 0 = 0#64 := by decide
  have e1 : BitVec.ofInt 64 (a : Int) = BitVec.ofNat 64 a := by rw [BitVec.ofInt_natCast]
  rw [e0, e1, BitVec.xor_zero, BitVec.toNat_ofNat, Nat.mod_eq_of_lt (by omega), wrap_u64 ⟨by omega, by omega⟩]
theorem xor_ones (a : Nat) (h : a < 18446744073709551616) : bitsP .xor .u64 (a : Int) 18446744073709551615 = some (((18446744073709551615 - a : Nat)) : Int) := by
  rw [xor_def]
  have e0 : BitVec.ofInt 64 18446744073709551615 = BitVec.allOnes 64 := by decide
  have e1 : BitVec.ofInt 64 (a : Int) = BitVec.ofNat 64 a := by rw [BitVec.ofInt_natCast]
  rw [e0, e1, BitVec.xor_allOnes, BitVec.toNat_not, BitVec.toNat_ofNat, Nat.mod_eq_of_lt (by omega), wrap_u64 ⟨by omega, by omega⟩]
theorem ones_xor (a : Nat) (h : a < 18446744073709551616) : unP .xor (.int .u64 (a : Int)) = some (.int .u64 ((18446744073709551615 - a : Nat) : Int)) := by
  have hx := xor_ones a h
  have hm : (if IntKind.u64.signed then (-1 : Int) else IntKind.u64.max) = 18446744073709551615 := by decide
  unfold unP
  simp only [hm]
  have hc : bitsP .xor .u64 18446744073709551615 (a : Int) = bitsP .xor .u64 (a : Int) 18446744073709551615 := by
    rw [xor_def, xor_def, BitVec.xor_comm]
  rw [hc, hx]
  rfl
theorem or128F : ∀ a : _root_.Fin 256, bitsP .or .u8 (a.val : Int) 128 = some ((a.val % 128 + 128 : Nat) : Int) := by decide +kernel
theorem or128 (u : Nat) : bitsP .or .u8 ((u % 256 : Nat) : Int) 128 = some ((u % 128 + 128 : Nat) : Int) := by
  have h := or128F ⟨u % 256, by omega⟩
  simp only at h
  rw [h]
  congr 2
  omega
theorem shr7 (u : Nat) : shiftP .shr .u64 (u : Int) 7 = some (.int .u64 ((u / 128 : Nat) : Int)) := shr_nat (by decide) (by decide)
theorem loop_w_Int (L : Code) (hL : L = fpart Tryd.f29 [1,1,1,0,0]) : ∀ (k u : Nat) (acc : List UInt8) (e : List PV), u < 128 ^ (k + 1) → acc.length + k ≤ 20 → getT e 3 = .int .u64 (u : Int) → getT e 4 = .osl 5 (bys acc) →
    ∃ e' u' acc', evL CC L ⟨e, []⟩ = some (.exit 0, ⟨e', []⟩) ∧ getT e' 3 = .int .u64 ((u' : Nat) : Int) ∧ u' < 128 ∧ getT e' 4 = .osl 5 (bys acc') ∧ acc' ++ [UInt8.ofNat u'] = acc ++ encF k u ∧ acc'.length ≤ 20 := by
  intro k
  induction k with
  | zero =>
    intro u acc e hu ha h3 h4
    rw [evL_at (fpart Tryd.f29 [1,1,1,0,0,0]) hL]
    have c1 : ¬ ((u : Int) ≥ 128) := by omega
    generalize hb : bys acc = xs at *
    obtain ⟨ev, eo, so, co, ⟨hev, hco⟩, R⟩ := RULES CC; rw [← hev]
    simp only [fpart, part', Tryd.f29, Option.getD]
    simp (maxSteps := 5000000) only [SA, SB, SD, R, guardAt, binP, intP, indexAddrP, elemsOf, readCells, lenP, lenAt, resultsP, resultP, oneOr, reduceCtorEq, reduceIte, Nat.reduceEqDiff, Nat.reduceAdd, Nat.zero_add, Nat.reduceMul, Nat.reduceLT, Nat.reduceLeDiff, Int.reduceLT, Int.reduceNeg, Int.reduceLE, appendP, appendAt, letGo, setLoc, locVal, Int.reduceToNat, boxCells, und, TG, SE, h3, h4, c1]
    exact ⟨_, u, acc, rfl, by simp (maxSteps := 5000000) only [SA, SB, SD, R, guardAt, binP, intP, indexAddrP, elemsOf, readCells, lenP, lenAt, resultsP, resultP, oneOr, reduceCtorEq, reduceIte, Nat.reduceEqDiff, Nat.reduceAdd, Nat.zero_add, Nat.reduceMul, Nat.reduceLT, Nat.reduceLeDiff, Int.reduceLT, Int.reduceNeg, Int.reduceLE, appendP, appendAt, letGo, setLoc, locVal, Int.reduceToNat, boxCells, und, h3], by omega, by simp (maxSteps := 5000000) only [SA, SB, SD, R, guardAt, binP, intP, indexAddrP, elemsOf, readCells, lenP, lenAt, resultsP, resultP, oneOr, reduceCtorEq, reduceIte, Nat.reduceEqDiff, Nat.reduceAdd, Nat.zero_add, Nat.reduceMul, Nat.reduceLT, Nat.reduceLeDiff, Int.reduceLT, Int.reduceNeg, Int.reduceLE, appendP, appendAt, letGo, setLoc, locVal, Int.reduceToNat, boxCells, und, h4, hb], rfl, by omega⟩
  | succ k ih =>
    intro u acc e hu ha h3 h4
    rw [evL_at (fpart Tryd.f29 [1,1,1,0,0,0]) hL]
    unfold encF
    by_cases c : u < 128
    · have c1 : ¬ ((u : Int) ≥ 128) := by omega
      rw [if_pos c]
      generalize hb : bys acc = xs at *
      obtain ⟨ev, eo, so, co, ⟨hev, hco⟩, R⟩ := RULES CC; rw [← hev]
      simp only [fpart, part', Tryd.f29, Option.getD]
      simp (maxSteps := 5000000) only [SA, SB, SD, R, guardAt, binP, intP, indexAddrP, elemsOf, readCells, lenP, lenAt, resultsP, resultP, oneOr, reduceCtorEq, reduceIte, Nat.reduceEqDiff, Nat.reduceAdd, Nat.zero_add, Nat.reduceMul, Nat.reduceLT, Nat.reduceLeDiff, Int.reduceLT, Int.reduceNeg, Int.reduceLE, appendP, appendAt, letGo, setLoc, locVal, Int.reduceToNat, boxCells, und, TG, SE, h3, h4, c1]
      exact ⟨_, u, acc, rfl, by simp (maxSteps := 5000000) only [SA, SB, SD, R, guardAt, binP, intP, indexAddrP, elemsOf, readCells, lenP, lenAt, resultsP, resultP, oneOr, reduceCtorEq, reduceIte, Nat.reduceEqDiff, Nat.reduceAdd, Nat.zero_add, Nat.reduceMul, Nat.reduceLT, Nat.reduceLeDiff, Int.reduceLT, Int.reduceNeg, Int.reduceLE, appendP, appendAt, letGo, setLoc, locVal, Int.reduceToNat, boxCells, und, h3], by omega, by simp (maxSteps := 5000000) only [SA, SB, SD, R, guardAt, binP, intP, indexAddrP, elemsOf, readCells, lenP, lenAt, resultsP, resultP, oneOr, reduceCtorEq, reduceIte, Nat.reduceEqDiff, Nat.reduceAdd, Nat.zero_add, Nat.reduceMul, Nat.reduceLT, Nat.reduceLeDiff, Int.reduceLT, Int.reduceNeg, Int.reduceLE, appendP, appendAt, letGo, setLoc, locVal, Int.reduceToNat, boxCells, und, h4, hb], rfl, by omega⟩
    · have c1 : ((u : Int) ≥ 128) := by omega
      rw [if_neg c]
      have cv := conv_u64_u8 u
      have ho := or128 u
      have hbs := bs_one (u % 128 + 128) (by omega)
      have hok := bys_all [UInt8.ofNat (u % 128 + 128)]
      have hbl := bys_length acc
      have hc : (bys acc).length + (bys [UInt8.ofNat (u % 128 + 128)]).length ≤ 1000000 := by
        rw [hbl, bys_length]; simp only [List.length_singleton]; omega
      have hs := shr7 u
      have key := fun e => ih (u / 128) (acc ++ [UInt8.ofNat (u % 128 + 128)]) e (by rw [Nat.div_lt_iff_lt_mul (by decide)]; rw [Nat.pow_succ] at hu; exact hu) (by rw [List.length_append, List.length_singleton]; omega)
      rw [bys_append] at key
      simp only [List.append_assoc, List.singleton_append] at key
      generalize UInt8.ofNat (u % 128 + 128) :: encF k (u / 128) = tl at *
      generalize bys [UInt8.ofNat (u % 128 + 128)] = ys at *
      generalize bys acc = xs at *
      obtain ⟨ev, eo, so, co, ⟨hev, hco⟩, R⟩ := RULES CC; rw [← hev]
      rw [← hev] at key
      simp only [fpart, part', Tryd.f29, Option.getD]
      simp (maxSteps := 5000000) only [SA, SB, SD, R, guardAt, binP, intP, indexAddrP, elemsOf, readCells, lenP, lenAt, resultsP, resultP, oneOr, reduceCtorEq, reduceIte, Nat.reduceEqDiff, Nat.reduceAdd, Nat.zero_add, Nat.reduceMul, Nat.reduceLT, Nat.reduceLeDiff, Int.reduceLT, Int.reduceNeg, Int.reduceLE, appendP, appendAt, letGo, setLoc, locVal, Int.reduceToNat, boxCells, und, TG, SE, h3, h4, c1, cv, ho, Option.map_some, hbs, ap_u8, hok, hc, hs]
      exact key _ (by simp (maxSteps := 5000000) only [SA, SB, SD, R, guardAt, binP, intP, indexAddrP, elemsOf, readCells, lenP, lenAt, resultsP, resultP, oneOr, reduceCtorEq, reduceIte, Nat.reduceEqDiff, Nat.reduceAdd, Nat.zero_add, Nat.reduceMul, Nat.reduceLT, Nat.reduceLeDiff, Int.reduceLT, Int.reduceNeg, Int.reduceLE, appendP, appendAt, letGo, setLoc, locVal, Int.reduceToNat, boxCells, und]) (by simp (maxSteps := 5000000) only [SA, SB, SD, R, guardAt, binP, intP, indexAddrP, elemsOf, readCells, lenP, lenAt, resultsP, resultP, oneOr, reduceCtorEq, reduceIte, Nat.reduceEqDiff, Nat.reduceAdd, Nat.zero_add, Nat.reduceMul, Nat.reduceLT, Nat.reduceLeDiff, Int.reduceLT, Int.reduceNeg, Int.reduceLE, appendP, appendAt, letGo, setLoc, locVal, Int.reduceToNat, boxCells, und])
/-- the sign of a number, folded in, as the program does it -/
theorem zz_prog {n : Int} (h : inI n) : ∃ a b c d : Int, convP CC 3 60 (.int .i64 n) = some (.int .u64 a) ∧ shiftP .shl .u64 a 1 = some (.int .u64 b) ∧ shiftP .shr .i64 n 63 = some (.int .i64 c) ∧ convP CC 3 60 (.int .i64 c) = some (.int .u64 d) ∧ bitsP .xor .u64 b d = some ((zz n : Nat) : Int) := by
  unfold inI at h
  have hp : (2 : Int) ^ (min (1 : Int).toNat IntKind.u64.bits) = 2 := by decide
  have hp2 : (2 : Int) ^ (min (63 : Int).toNat IntKind.i64.bits) = 9223372036854775808 := by decide
  by_cases c : 0 ≤ n
  · have hz : zz n = (2 * n).toNat := if_pos c
    have h1 := xor_zero (zz n) (by omega)
    have h2 : ((zz n : Nat) : Int) = n * 2 := by omega
    refine ⟨n, n * 2, 0, 0, ?_, ?_, ?_, ?_, ?_⟩
    · rw [conv_i_u64, wrap_u64 ⟨by omega, by omega⟩]
    · unfold shiftP
      rw [if_neg (by decide)]
      simp only
      rw [hp, wrap_u64 ⟨by omega, by omega⟩]
    · unfold shiftP
      rw [if_neg (by decide)]
      simp only
      rw [hp2, Int.fdiv_eq_ediv_of_nonneg _ (by decide), Int.ediv_eq_zero_of_lt c (by omega)]
    · rw [conv_i_u64, wrap_u64 ⟨by omega, by omega⟩]
    · rw [← h2]; exact h1
  · have hz : zz n = (-2 * n - 1).toNat := if_neg c
    have h1 := xor_ones (2 * n + 18446744073709551616).toNat (by omega)
    refine ⟨n + 18446744073709551616, 2 * n + 18446744073709551616, -1, 18446744073709551615, ?_, ?_, ?_, ?_, ?_⟩
    · rw [conv_i_u64]
      congr 2
      simp only [IntKind.wrap, IntKind.bits, IntKind.signed]
      simp
      omega
    · unfold shiftP
      rw [if_neg (by decide)]
      simp only
      rw [hp]
      congr 2
      simp only [IntKind.wrap, IntKind.bits, IntKind.signed]
      simp
      omega
    · unfold shiftP
      rw [if_neg (by decide)]
      simp only
      rw [hp2, Int.fdiv_eq_ediv_of_nonneg _ (by decide)]
      congr 2
      omega
    · rw [conv_i_u64]
      congr 2
    · have e : (2 * n + 18446744073709551616) = (((2 * n + 18446744073709551616).toNat : Nat) : Int) := by omega
      rw [e, h1]
      congr 1
      omega
theorem call_w_Int (n : Int) (h : inI n) : callL CC 29 [.int .i64 n] [] = some (.ret (.str (encI n)), []) := by
  rw [callL_enter (fn := Tryd.f29) (c := Tryd.f29.body.getD .skip) rfl rfl fat_wire_Int rfl ok_wire_Int (Nat.le_of_ble_eq_true rfl)]
  obtain ⟨a, b, c, d, g1, g2, g3, g4, g5⟩ := zz_prog h
  have hz := zz_lt h
  have hloop := fun e => loop_w_Int _ rfl 9 (zz n) [] e (by omega) (by simp)
  have hb0 : bys [] = [] := rfl
  rw [hb0] at hloop
  simp only [List.nil_append] at hloop
  have hcv := conv_u64_u8
  have hbs := bs_one
  have hc1 := conv_b1
  have hc2 := conv_b2
  have hba := bys_append
  have hbl := bys_length
  have hall := bys_all
  unfold encI
  generalize encF 9 (zz n) = E at *
  generalize zz n = z at *
  obtain ⟨ev, eo, so, co, ⟨hev, hco⟩, R⟩ := RULES CC; rw [← hev]
  rw [← hev] at hloop
  simp only [fpart, part', Tryd.f29, Option.getD] at hloop ⊢
  simp (maxSteps := 5000000) only [SA, SB, SD, R, guardAt, binP, intP, indexAddrP, elemsOf, readCells, lenP, lenAt, resultsP, resultP, oneOr, reduceCtorEq, reduceIte, Nat.reduceEqDiff, Nat.reduceAdd, Nat.zero_add, Nat.reduceMul, Nat.reduceLT, Nat.reduceLeDiff, Int.reduceLT, Int.reduceNeg, Int.reduceLE, appendP, appendAt, letGo, setLoc, locVal, Int.reduceToNat, boxCells, und, TG, SE, g1, g2, g3, g4, g5, Option.map_some]
  generalize hE : ev _ _ = r
  have hP : ∃ e' u' acc', r = some (.exit 0, ⟨e', []⟩) ∧ getT e' 3 = .int .u64 ((u' : Nat) : Int) ∧ u' < 128 ∧ getT e' 4 = .osl 5 (bys acc') ∧ acc' ++ [UInt8.ofNat u'] = E ∧ acc'.length ≤ 20 := by
    rw [← hE]
    exact hloop _ (by simp (maxSteps := 5000000) only [SA, SB, SD, R, guardAt, binP, intP, indexAddrP, elemsOf, readCells, lenP, lenAt, resultsP, resultP, oneOr, reduceCtorEq, reduceIte, Nat.reduceEqDiff, Nat.reduceAdd, Nat.zero_add, Nat.reduceMul, Nat.reduceLT, Nat.reduceLeDiff, Int.reduceLT, Int.reduceNeg, Int.reduceLE, appendP, appendAt, letGo, setLoc, locVal, Int.reduceToNat, boxCells, und]) (by simp (maxSteps := 5000000) only [SA, SB, SD, R, guardAt, binP, intP, indexAddrP, elemsOf, readCells, lenP, lenAt, resultsP, resultP, oneOr, reduceCtorEq, reduceIte, Nat.reduceEqDiff, Nat.reduceAdd, Nat.zero_add, Nat.reduceMul, Nat.reduceLT, Nat.reduceLeDiff, Int.reduceLT, Int.reduceNeg, Int.reduceLE, appendP, appendAt, letGo, setLoc, locVal, Int.reduceToNat, boxCells, und])
  obtain ⟨e', u', acc', he, k3, k5, k4, k6, k7⟩ := hP
  subst he
  have hcv := hcv u'
  have hu : u' % 256 = u' := by omega
  rw [hu] at hcv
  have hbs := hbs u' (by omega)
  have hc1 := hc1 E
  have hc2 := hc2 E
  have hba := hba acc' [UInt8.ofNat u']
  have hal := hall [UInt8.ofNat u']
  have hlen : (bys acc').length + (bys [UInt8.ofNat u']).length ≤ 1000000 := by rw [hbl, hbl, List.length_singleton]; omega
  rw [k6] at hba
  rw [hba] at hc1 hc2
  generalize bys [UInt8.ofNat u'] = ys at *
  generalize bys acc' = xs at *
  simp (maxSteps := 5000000) only [SA, SB, SD, R, guardAt, binP, intP, indexAddrP, elemsOf, readCells, lenP, lenAt, resultsP, resultP, oneOr, reduceCtorEq, reduceIte, Nat.reduceEqDiff, Nat.reduceAdd, Nat.zero_add, Nat.reduceMul, Nat.reduceLT, Nat.reduceLeDiff, Int.reduceLT, Int.reduceNeg, Int.reduceLE, appendP, appendAt, letGo, setLoc, locVal, Int.reduceToNat, boxCells, und, TG, SE, k3, k4, hcv, hbs, ap_u8, hal, hlen, hc1, hc2]
theorem op_w_Int (n : Int) (h : inI n) (bx) : callOp CC (callL CC) 29 [.int .i64 n] bx = some (.ret (.str (encI n)), bx) := callOp_of rfl (by simp only [SA, Bool.and_true]) (call_w_Int n h) rfl
theorem loop_R02_Int (L : Code) (hL : L = fpart Tryd.f48 [1,1,1,1,0,0]) : ∀ (k u : Nat) (acc : List UInt8) (e : List PV), u < 128 ^ (k + 1) → u < 18446744073709551616 → acc.length + k ≤ 20 → getT e 3 = .int .u64 (u : Int) → getT e 4 = .osl 5 (bys acc) →
    ∃ e' u' acc', evL CC L ⟨e, []⟩ = some (.exit 0, ⟨e', []⟩) ∧ getT e' 3 = .int .u64 ((u' : Nat) : Int) ∧ u' < 128 ∧ getT e' 4 = .osl 5 (bys acc') ∧ acc' ++ [UInt8.ofNat u'] = acc ++ encF k u ∧ acc'.length ≤ 20 := by
  intro k
  induction k with
  | zero =>
    intro u acc e hu hu6 ha h3 h4
    rw [evL_at (fpart Tryd.f48 [1,1,1,1,0,0,0]) hL]
    have c1 : ¬ ((u : Int) ≥ 128) := by omega
    generalize hb : bys acc = xs at *
    obtain ⟨ev, eo, so, co, ⟨hev, hco⟩, R⟩ := RULES CC; rw [← hev]
    simp only [fpart, part', Tryd.f48, Option.getD]
    simp (maxSteps := 5000000) only [SA, SB, SD, R, guardAt, binP, intP, indexAddrP, elemsOf, readCells, lenP, lenAt, resultsP, resultP, oneOr, reduceCtorEq, reduceIte, Nat.reduceEqDiff, Nat.reduceAdd, Nat.zero_add, Nat.reduceMul, Nat.reduceLT, Nat.reduceLeDiff, Int.reduceLT, Int.reduceNeg, Int.reduceLE, appendP, appendAt, letGo, setLoc, locVal, Int.reduceToNat, boxCells, und, TG, SE, h3, h4, c1]
    exact ⟨_, u, acc, rfl, by simp (maxSteps := 5000000) only [SA, SB, SD, R, guardAt, binP, intP, indexAddrP, elemsOf, readCells, lenP, lenAt, resultsP, resultP, oneOr, reduceCtorEq, reduceIte, Nat.reduceEqDiff, Nat.reduceAdd, Nat.zero_add, Nat.reduceMul, Nat.reduceLT, Nat.reduceLeDiff, Int.reduceLT, Int.reduceNeg, Int.reduceLE, appendP, appendAt, letGo, setLoc, locVal, Int.reduceToNat, boxCells, und, h3], by omega, by simp (maxSteps := 5000000) only [SA, SB, SD, R, guardAt, binP, intP, indexAddrP, elemsOf, readCells, lenP, lenAt, resultsP, resultP, oneOr, reduceCtorEq, reduceIte, Nat.reduceEqDiff, Nat.reduceAdd, Nat.zero_add, Nat.reduceMul, Nat.reduceLT, Nat.reduceLeDiff, Int.reduceLT, Int.reduceNeg, Int.reduceLE, appendP, appendAt, letGo, setLoc, locVal, Int.reduceToNat, boxCells, und, h4, hb], rfl, by omega⟩
  | succ k ih =>
    intro u acc e hu hu6 ha h3 h4
    rw [evL_at (fpart Tryd.f48 [1,1,1,1,0,0,0]) hL]
    unfold encF
    by_cases c : u < 128
    · have c1 : ¬ ((u : Int) ≥ 128) := by omega
      rw [if_pos c]
      generalize hb : bys acc = xs at *
      obtain ⟨ev, eo, so, co, ⟨hev, hco⟩, R⟩ := RULES CC; rw [← hev]
      simp only [fpart, part', Tryd.f48, Option.getD]
      simp (maxSteps := 5000000) only [SA, SB, SD, R, guardAt, binP, intP, indexAddrP, elemsOf, readCells, lenP, lenAt, resultsP, resultP, oneOr, reduceCtorEq, reduceIte, Nat.reduceEqDiff, Nat.reduceAdd, Nat.zero_add, Nat.reduceMul, Nat.reduceLT, Nat.reduceLeDiff, Int.reduceLT, Int.reduceNeg, Int.reduceLE, appendP, appendAt, letGo, setLoc, locVal, Int.reduceToNat, boxCells, und, TG, SE, h3, h4, c1]
      exact ⟨_, u, acc, rfl, by simp (maxSteps := 5000000) only [SA, SB, SD, R, guardAt, binP, intP, indexAddrP, elemsOf, readCells, lenP, lenAt, resultsP, resultP, oneOr, reduceCtorEq, reduceIte, Nat.reduceEqDiff, Nat.reduceAdd, Nat.zero_add, Nat.reduceMul, Nat.reduceLT, Nat.reduceLeDiff, Int.reduceLT, Int.reduceNeg, Int.reduceLE, appendP, appendAt, letGo, setLoc, locVal, Int.reduceToNat, boxCells, und, h3], by omega, by simp (maxSteps := 5000000) only [SA, SB, SD, R, guardAt, binP, intP, indexAddrP, elemsOf, readCells, lenP, lenAt, resultsP, resultP, oneOr, reduceCtorEq, reduceIte, Nat.reduceEqDiff, Nat.reduceAdd, Nat.zero_add, Nat.reduceMul, Nat.reduceLT, Nat.reduceLeDiff, Int.reduceLT, Int.reduceNeg, Int.reduceLE, appendP, appendAt, letGo, setLoc, locVal, Int.reduceToNat, boxCells, und, h4, hb], rfl, by omega⟩
    · have c1 : ((u : Int) ≥ 128) := by omega
      rw [if_neg c]
      have htm : (u : Int).tmod 128 = ((u % 128 : Nat) : Int) := by rw [Int.tmod_eq_emod_of_nonneg (by omega)]; omega
      have htd : (u : Int).tdiv 128 = ((u / 128 : Nat) : Int) := by rw [Int.tdiv_eq_ediv_of_nonneg (by omega)]; omega
      have wq := wrap_u64 (n := ((u / 128 : Nat) : Int)) ⟨by omega, by omega⟩
      have cv := conv_u64_u8 (u % 128)
      rw [show u % 128 % 256 = u % 128 by omega] at cv
      have wa := wrap_u8' (n := ((u % 128 : Nat) : Int) + 128) ⟨by omega, by omega⟩
      have hbs := bs_one (u % 128 + 128) (by omega)
      have ea : ((u % 128 + 128 : Nat) : Int) = ((u % 128 : Nat) : Int) + 128 := by omega
      rw [ea] at hbs
      have hok := bys_all [UInt8.ofNat (u % 128 + 128)]
      have hbl := bys_length acc
      have hc : (bys acc).length + (bys [UInt8.ofNat (u % 128 + 128)]).length ≤ 1000000 := by
        rw [hbl, bys_length]; simp only [List.length_singleton]; omega
      have key := fun e => ih (u / 128) (acc ++ [UInt8.ofNat (u % 128 + 128)]) e (by rw [Nat.div_lt_iff_lt_mul (by decide)]; rw [Nat.pow_succ] at hu; exact hu) (by omega) (by rw [List.length_append, List.length_singleton]; omega)
      rw [bys_append] at key
      simp only [List.append_assoc, List.singleton_append] at key
      generalize UInt8.ofNat (u % 128 + 128) :: encF k (u / 128) = tl at *
      generalize bys [UInt8.ofNat (u % 128 + 128)] = ys at *
      generalize bys acc = xs at *
      obtain ⟨ev, eo, so, co, ⟨hev, hco⟩, R⟩ := RULES CC; rw [← hev]
      rw [← hev] at key
      simp only [fpart, part', Tryd.f48, Option.getD]
      simp (maxSteps := 5000000) only [SA, SB, SD, R, guardAt, binP, intP, indexAddrP, elemsOf, readCells, lenP, lenAt, resultsP, resultP, oneOr, reduceCtorEq, reduceIte, Nat.reduceEqDiff, Nat.reduceAdd, Nat.zero_add, Nat.reduceMul, Nat.reduceLT, Nat.reduceLeDiff, Int.reduceLT, Int.reduceNeg, Int.reduceLE, appendP, appendAt, letGo, setLoc, locVal, Int.reduceToNat, boxCells, und, TG, SE, Int.reduceEq, h3, h4, c1, htm, htd, wq, cv, wa, hbs, ap_u8, hok, hc]
      exact key _ (by simp (maxSteps := 5000000) only [SA, SB, SD, R, guardAt, binP, intP, indexAddrP, elemsOf, readCells, lenP, lenAt, resultsP, resultP, oneOr, reduceCtorEq, reduceIte, Nat.reduceEqDiff, Nat.reduceAdd, Nat.zero_add, Nat.reduceMul, Nat.reduceLT, Nat.reduceLeDiff, Int.reduceLT, Int.reduceNeg, Int.reduceLE, appendP, appendAt, letGo, setLoc, locVal, Int.reduceToNat, boxCells, und]) (by simp (maxSteps := 5000000) only [SA, SB, SD, R, guardAt, binP, intP, indexAddrP, elemsOf, readCells, lenP, lenAt, resultsP, resultP, oneOr, reduceCtorEq, reduceIte, Nat.reduceEqDiff, Nat.reduceAdd, Nat.zero_add, Nat.reduceMul, Nat.reduceLT, Nat.reduceLeDiff, Int.reduceLT, Int.reduceNeg, Int.reduceLE, appendP, appendAt, letGo, setLoc, locVal, Int.reduceToNat, boxCells, und])
theorem zz_ref {n : Int} (h : inI n) : ∃ a b : Nat, convP CC 3 60 (.int .i64 n) = some (.int .u64 a) ∧ shiftP .shl .u64 a 1 = some (.int .u64 b) ∧ b < 18446744073709551616 ∧ (0 ≤ n → zz n = b) ∧ (n < 0 → zz n = 18446744073709551615 - b) := by
  unfold inI at h
  have hp : (2 : Int) ^ (min (1 : Int).toNat IntKind.u64.bits) = 2 := by decide
  by_cases c : 0 ≤ n
  · have hz : zz n = (2 * n).toNat := if_pos c
    refine ⟨n.toNat, (2 * n).toNat, ?_, ?_, by omega, fun _ => hz, fun x => by omega⟩
    · rw [conv_i_u64, wrap_u64 ⟨by omega, by omega⟩]
      congr 2
      omega
    · unfold shiftP
      rw [if_neg (by decide)]
      simp only
      rw [hp, wrap_u64 ⟨by omega, by omega⟩]
      congr 2
      omega
  · have hz : zz n = (-2 * n - 1).toNat := if_neg c
    refine ⟨(n + 18446744073709551616).toNat, (2 * n + 18446744073709551616).toNat, ?_, ?_, by omega, fun x => by omega, fun _ => by omega⟩
    · rw [conv_i_u64]
      congr 2
      simp only [IntKind.wrap, IntKind.bits, IntKind.signed]
      simp
      omega
    · unfold shiftP
      rw [if_neg (by decide)]
      simp only
      rw [hp]
      congr 2
      simp only [IntKind.wrap, IntKind.bits, IntKind.signed]
      simp
      omega
theorem call_R02_Int (n : Int) (h : inI n) : callL CC 48 [.int .i64 n] [] = some (.ret (.str (encI n)), []) := by
  rw [callL_enter (fn := Tryd.f48) (c := Tryd.f48.body.getD .skip) rfl rfl fat_R02_Int rfl ok_R02_Int (Nat.le_of_ble_eq_true rfl)]
  obtain ⟨a, b, g1, g2, g3, g4, g5⟩ := zz_ref h
  have hux := ones_xor b g3
  have hz := zz_lt h
  have hloop := fun e => loop_R02_Int _ rfl 9 (zz n) [] e (by omega) hz (by simp)
  have hb0 : bys [] = [] := rfl
  rw [hb0] at hloop
  simp only [List.nil_append] at hloop
  have hcv := conv_u64_u8
  have hbs := bs_one
  have hc1 := conv_b1
  have hc2 := conv_b2
  have hba := bys_append
  have hbl := bys_length
  have hall := bys_all
  unfold encI
  generalize encF 9 (zz n) = E at *
  have tail : ∀ (e : List PV), getT e 3 = .int .u64 ((zz n : Nat) : Int) → True := fun _ _ => trivial
  by_cases c : n < 0
  · have hzn := g5 c
    rw [← hzn] at hux
    generalize zz n = z at *
    obtain ⟨ev, eo, so, co, ⟨hev, hco⟩, R⟩ := RULES CC; rw [← hev]
    rw [← hev] at hloop
    simp only [fpart, part', Tryd.f48, Option.getD] at hloop ⊢
    simp (maxSteps := 5000000) only [SA, SB, SD, R, guardAt, binP, intP, indexAddrP, elemsOf, readCells, lenP, lenAt, resultsP, resultP, oneOr, reduceCtorEq, reduceIte, Nat.reduceEqDiff, Nat.reduceAdd, Nat.zero_add, Nat.reduceMul, Nat.reduceLT, Nat.reduceLeDiff, Int.reduceLT, Int.reduceNeg, Int.reduceLE, appendP, appendAt, letGo, setLoc, locVal, Int.reduceToNat, boxCells, und, TG, SE, g1, g2, c, hux]
    generalize hE : ev _ _ = r
    have hP : ∃ e' u' acc', r = some (.exit 0, ⟨e', []⟩) ∧ getT e' 3 = .int .u64 ((u' : Nat) : Int) ∧ u' < 128 ∧ getT e' 4 = .osl 5 (bys acc') ∧ acc' ++ [UInt8.ofNat u'] = E ∧ acc'.length ≤ 20 := by
      rw [← hE]
      exact hloop _ (by simp (maxSteps := 5000000) only [SA, SB, SD, R, guardAt, binP, intP, indexAddrP, elemsOf, readCells, lenP, lenAt, resultsP, resultP, oneOr, reduceCtorEq, reduceIte, Nat.reduceEqDiff, Nat.reduceAdd, Nat.zero_add, Nat.reduceMul, Nat.reduceLT, Nat.reduceLeDiff, Int.reduceLT, Int.reduceNeg, Int.reduceLE, appendP, appendAt, letGo, setLoc, locVal, Int.reduceToNat, boxCells, und]) (by simp (maxSteps := 5000000) only [SA, SB, SD, R, guardAt, binP, intP, indexAddrP, elemsOf, readCells, lenP, lenAt, resultsP, resultP, oneOr, reduceCtorEq, reduceIte, Nat.reduceEqDiff, Nat.reduceAdd, Nat.zero_add, Nat.reduceMul, Nat.reduceLT, Nat.reduceLeDiff, Int.reduceLT, Int.reduceNeg, Int.reduceLE, appendP, appendAt, letGo, setLoc, locVal, Int.reduceToNat, boxCells, und])
    obtain ⟨e', u', acc', he, k3, k5, k4, k6, k7⟩ := hP
    subst he
    have hcv := hcv u'
    have hu : u' % 256 = u' := by omega
    rw [hu] at hcv
    have hbs := hbs u' (by omega)
    have hc1 := hc1 E
    have hc2 := hc2 E
    have hba := hba acc' [UInt8.ofNat u']
    have hal := hall [UInt8.ofNat u']
    have hlen : (bys acc').length + (bys [UInt8.ofNat u']).length ≤ 1000000 := by rw [hbl, hbl, List.length_singleton]; omega
    rw [k6] at hba
    rw [hba] at hc1 hc2
    generalize bys [UInt8.ofNat u'] = ys at *
    generalize bys acc' = xs at *
    simp (maxSteps := 5000000) only [SA, SB, SD, R, guardAt, binP, intP, indexAddrP, elemsOf, readCells, lenP, lenAt, resultsP, resultP, oneOr, reduceCtorEq, reduceIte, Nat.reduceEqDiff, Nat.reduceAdd, Nat.zero_add, Nat.reduceMul, Nat.reduceLT, Nat.reduceLeDiff, Int.reduceLT, Int.reduceNeg, Int.reduceLE, appendP, appendAt, letGo, setLoc, locVal, Int.reduceToNat, boxCells, und, TG, SE, k3, k4, hcv, hbs, ap_u8, hal, hlen, hc1, hc2]
  · have hzn := g4 (by omega)
    generalize zz n = z at *
    subst hzn
    obtain ⟨ev, eo, so, co, ⟨hev, hco⟩, R⟩ := RULES CC; rw [← hev]
    rw [← hev] at hloop
    simp only [fpart, part', Tryd.f48, Option.getD] at hloop ⊢
    simp (maxSteps := 5000000) only [SA, SB, SD, R, guardAt, binP, intP, indexAddrP, elemsOf, readCells, lenP, lenAt, resultsP, resultP, oneOr, reduceCtorEq, reduceIte, Nat.reduceEqDiff, Nat.reduceAdd, Nat.zero_add, Nat.reduceMul, Nat.reduceLT, Nat.reduceLeDiff, Int.reduceLT, Int.reduceNeg, Int.reduceLE, appendP, appendAt, letGo, setLoc, locVal, Int.reduceToNat, boxCells, und, TG, SE, g1, g2, c]
    generalize hE : ev _ _ = r
    have hP : ∃ e' u' acc', r = some (.exit 0, ⟨e', []⟩) ∧ getT e' 3 = .int .u64 ((u' : Nat) : Int) ∧ u' < 128 ∧ getT e' 4 = .osl 5 (bys acc') ∧ acc' ++ [UInt8.ofNat u'] = E ∧ acc'.length ≤ 20 := by
      rw [← hE]
      exact hloop _ (by simp (maxSteps := 5000000) only [SA, SB, SD, R, guardAt, binP, intP, indexAddrP, elemsOf, readCells, lenP, lenAt, resultsP, resultP, oneOr, reduceCtorEq, reduceIte, Nat.reduceEqDiff, Nat.reduceAdd, Nat.zero_add, Nat.reduceMul, Nat.reduceLT, Nat.reduceLeDiff, Int.reduceLT, Int.reduceNeg, Int.reduceLE, appendP, appendAt, letGo, setLoc, locVal, Int.reduceToNat, boxCells, und]) (by simp (maxSteps := 5000000) only [SA, SB, SD, R, guardAt, binP, intP, indexAddrP, elemsOf, readCells, lenP, lenAt, resultsP, resultP, oneOr, reduceCtorEq, reduceIte, Nat.reduceEqDiff, Nat.reduceAdd, Nat.zero_add, Nat.reduceMul, Nat.reduceLT, Nat.reduceLeDiff, Int.reduceLT, Int.reduceNeg, Int.reduceLE, appendP, appendAt, letGo, setLoc, locVal, Int.reduceToNat, boxCells, und])
    obtain ⟨e', u', acc', he, k3, k5, k4, k6, k7⟩ := hP
    subst he
    have hcv := hcv u'
    have hu : u' % 256 = u' := by omega
    rw [hu] at hcv
    have hbs := hbs u' (by omega)
    have hc1 := hc1 E
    have hc2 := hc2 E
    have hba := hba acc' [UInt8.ofNat u']
    have hal := hall [UInt8.ofNat u']
    have hlen : (bys acc').length + (bys [UInt8.ofNat u']).length ≤ 1000000 := by rw [hbl, hbl, List.length_singleton]; omega
    rw [k6] at hba
    rw [hba] at hc1 hc2
    generalize bys [UInt8.ofNat u'] = ys at *
    generalize bys acc' = xs at *
    simp (maxSteps := 5000000) only [SA, SB, SD, R, guardAt, binP, intP, indexAddrP, elemsOf, readCells, lenP, lenAt, resultsP, resultP, oneOr, reduceCtorEq, reduceIte, Nat.reduceEqDiff, Nat.reduceAdd, Nat.zero_add, Nat.reduceMul, Nat.reduceLT, Nat.reduceLeDiff, Int.reduceLT, Int.reduceNeg, Int.reduceLE, appendP, appendAt, letGo, setLoc, locVal, Int.reduceToNat, boxCells, und, TG, SE, k3, k4, hcv, hbs, ap_u8, hal, hlen, hc1, hc2]
theorem op_R02_Int (n : Int) (h : inI n) (bx) : callOp CC (callL CC) 48 [.int .i64 n] bx = some (.ret (.str (encI n)), bx) := callOp_of rfl (by simp only [SA, Bool.and_true]) (call_R02_Int n h) rfl
/-- a string, with its length ahead -/
def encT (s : List UInt8) : List UInt8 := encI s.length ++ s
theorem str_add' (a b : List UInt8) (h : a.length + b.length ≤ 1000000) : strP .add a b = some (.str (a ++ b)) := if_pos (by unfold maxStr; omega)
theorem call_w_Text (s : List UInt8) (h : s.length ≤ 900000) : callL CC 47 [.str s] [] = some (.ret (.str (encT s)), []) := by
  rw [callL_enter (fn := Tryd.f47) (c := Tryd.f47.body.getD .skip) rfl rfl fat_wire_Text rfl ok_wire_Text (Nat.le_of_ble_eq_true rfl)]
  have hlen := len_str s
  have hi := op_w_Int s.length (by unfold inI; omega)
  have hl := encI_len s.length
  have ha := str_add' (encI s.length) s (by omega)
  unfold encT
  generalize encI s.length = E at *
  generalize E ++ s = T at *
  obtain ⟨ev, eo, so, co, ⟨hev, hco⟩, R⟩ := RULES CC; rw [← hev]
  rw [← hco] at hi
  simp only [fpart, part', Tryd.f47, Option.getD]
  simp (maxSteps := 5000000) only [SA, SB, SD, R, guardAt, binP, intP, indexAddrP, elemsOf, readCells, lenP, lenAt, resultsP, resultP, oneOr, reduceCtorEq, reduceIte, Nat.reduceEqDiff, Nat.reduceAdd, Nat.zero_add, Nat.reduceMul, Nat.reduceLT, Nat.reduceLeDiff, Int.reduceLT, Int.reduceNeg, Int.reduceLE, appendP, appendAt, letGo, setLoc, locVal, Int.reduceToNat, boxCells, und, TG, SE, hlen, hi, ha]
theorem op_w_Text (s : List UInt8) (h : s.length ≤ 900000) (bx) : callOp CC (callL CC) 47 [.str s] bx = some (.ret (.str (encT s)), bx) := callOp_of rfl (by simp only [SA, Bool.and_true]) (call_w_Text s h) rfl
theorem call_R02_Text (s : List UInt8) (h : s.length ≤ 900000) : callL CC 49 [.str s] [] = some (.ret (.str (encT s)), []) := by
  rw [callL_enter (fn := Tryd.f49) (c := Tryd.f49.body.getD .skip) rfl rfl fat_R02_Text rfl ok_R02_Text (Nat.le_of_ble_eq_true rfl)]
  have hlen := len_str s
  have hi := op_R02_Int s.length (by unfold inI; omega)
  have hl := encI_len s.length
  have ha := str_add' (encI s.length) s (by omega)
  unfold encT
  generalize encI s.length = E at *
  generalize E ++ s = T at *
  obtain ⟨ev, eo, so, co, ⟨hev, hco⟩, R⟩ := RULES CC; rw [← hev]
  rw [← hco] at hi
  simp only [fpart, part', Tryd.f49, Option.getD]
  simp (maxSteps := 5000000) only [SA, SB, SD, R, guardAt, binP, intP, indexAddrP, elemsOf, readCells, lenP, lenAt, resultsP, resultP, oneOr, reduceCtorEq, reduceIte, Nat.reduceEqDiff, Nat.reduceAdd, Nat.zero_add, Nat.reduceMul, Nat.reduceLT, Nat.reduceLeDiff, Int.reduceLT, Int.reduceNeg, Int.reduceLE, appendP, appendAt, letGo, setLoc, locVal, Int.reduceToNat, boxCells, und, TG, SE, hlen, hi, ha]
theorem op_R02_Text (s : List UInt8) (h : s.length ≤ 900000) (bx) : callOp CC (callL CC) 49 [.str s] bx = some (.ret (.str (encT s)), bx) := callOp_of rfl (by simp only [SA, Bool.and_true]) (call_R02_Text s h) rfl
theorem ok_wire_varint : fnOK CC Tryd.f53 (Tryd.f53.body.getD .skip) = true := by kernel_rfl
theorem fat_wire_varint : CC.P.funcs[53]? = some Tryd.f53 := by kernel_rfl
/-- the number that a string begins with, from its i-th byte on: the number and the end, or the error -/
def decF : List UInt8 → Nat → Nat → (Nat × Nat) ⊕ Int
  | [], _, _ => .inr 5
  | c :: r, i, u => if (0 < i ∧ c.toNat = 0) ∨ (i = 9 ∧ 1 < c.toNat) then .inr 4 else if c.toNat < 128 then .inl (u + c.toNat % 128 * 128 ^ i, i + 1) else decF r (i + 1) (u + c.toNat % 128 * 128 ^ i)
theorem and127F : ∀ a : _root_.Fin 256, bitsP .and .u8 (a.val : Int) 127 = some ((a.val % 128 : Nat) : Int) := by decide +kernel
theorem and127 (c : Nat) (h : c < 256) : bitsP .and .u8 (c : Int) 127 = some ((c % 128 : Nat) : Int) := and127F ⟨c, h⟩
theorem pow128 (i : Nat) : 128 ^ i = 2 ^ (7 * i) := by rw [Nat.pow_mul]
theorem pow_le9 {i : Nat} (h : i ≤ 9) : 128 ^ i ≤ 9223372036854775808 := by
  have : 128 ^ i ≤ 128 ^ 9 := Nat.pow_le_pow_right (by decide) h
  have e : 128 ^ 9 = 9223372036854775808 := by decide
  omega
/-- seven bits, at their place -/
theorem shl_at (x i : Nat) (hx : x < 128) (hi : i ≤ 8 ∨ (i = 9 ∧ x ≤ 1)) : shiftP .shl .u64 (x : Int) (7 * (i : Int)) = some (.int .u64 ((x * 128 ^ i : Nat) : Int)) := by
  have hlt : x * 128 ^ i < 18446744073709551616 := by
    rcases hi with h | ⟨h, h2⟩
    · have h1 : 128 ^ i ≤ 128 ^ 8 := Nat.pow_le_pow_right (by decide) h
      have e : 128 ^ 8 = 72057594037927936 := by decide
      have : x * 128 ^ i ≤ 127 * 72057594037927936 := Nat.mul_le_mul (by omega) (by omega)
      omega
    · subst h
      have e : 128 ^ 9 = 9223372036854775808 := by decide
      rw [e]
      omega
  have hb : IntKind.u64.bits = 64 := rfl
  have hm : min (7 * (i : Int)).toNat IntKind.u64.bits = 7 * i := by rw [hb]; omega
  unfold shiftP
  rw [if_neg (by omega)]
  simp only
  rw [hm]
  have e2 : (x : Int) * 2 ^ (7 * i) = ((x * 128 ^ i : Nat) : Int) := by rw [pow128]; push_cast; rfl
  rw [e2, wrap_u64 ⟨by omega, by omega⟩]
theorem or_def64 (x y : Int) : bitsP .or .u64 x y = some (IntKind.wrap .u64 (((BitVec.ofInt 64 x ||| BitVec.ofInt 64 y : BitVec 64)).toNat : Int)) := rfl
/-- put together with what is below -/
theorem or_at (u x i : Nat) (hu : u < 128 ^ i) (hi : i ≤ 9) (hlt : x * 128 ^ i < 18446744073709551616) (hs : u + x * 128 ^ i < 18446744073709551616) : bitsP .or .u64 (u : Int) ((x * 128 ^ i : Nat) : Int) = some ((u + x * 128 ^ i : Nat) : Int) := by
  rw [or_def64]
  have hu6 : u < 18446744073709551616 := by have := pow_le9 hi; omega
  rw [BitVec.ofInt_natCast, BitVec.ofInt_natCast, BitVec.toNat_or, BitVec.toNat_ofNat, BitVec.toNat_ofNat, Nat.mod_eq_of_lt hu6, Nat.mod_eq_of_lt hlt]
  have e : u ||| x * 128 ^ i = u + x * 128 ^ i := by
    rw [pow128] at hu ⊢
    have := Nat.shiftLeft_add_eq_or_of_lt hu x
    rw [Nat.shiftLeft_eq] at this
    rw [Nat.or_comm, ← this, Nat.add_comm]
  rw [e, wrap_u64 ⟨by omega, by omega⟩]
theorem sum_lt (u x i : Nat) (hu : u < 128 ^ i) (hx : x < 128) : u + x * 128 ^ i < 128 ^ (i + 1) := by
  rw [Nat.pow_succ]
  have : x * 128 ^ i ≤ 127 * 128 ^ i := Nat.mul_le_mul_right _ (by omega)
  omega
/-- what the loop over the bytes comes to -/
def PVi (v : (Nat × Nat) ⊕ Int) (r : Option (Ex × St)) : Prop := match v with
  | .inl (u, k) => ∃ e', r = some (.ret, ⟨e', []⟩) ∧ getT e' 2 = .int .u64 (u : Int) ∧ getT e' 3 = .int .i64 (k : Int) ∧ getT e' 4 = .int .i64 0
  | .inr c => ∃ e', (c = 5 ∧ r = some (.exit 0, ⟨e', []⟩)) ∨ (r = some (.ret, ⟨e', []⟩) ∧ getT e' 2 = .int .u64 0 ∧ getT e' 3 = .int .i64 0 ∧ getT e' 4 = .int .i64 c)

theorem loop_varint (L : Code) (hL : L = fpart Tryd.f53 [1,1,0,1,0]) (s : List UInt8) (hs : s.length ≤ 900000) : ∀ (k i u : Nat) (e : List PV), i + k = s.length → i ≤ 9 → u < 128 ^ i → getT e 0 = .str s → getT e 5 = .int .u64 (u : Int) → getT e 9 = .int .i64 s.length → getT e 10 = .int .i64 i →
    PVi (decF (s.drop i) i u) (evL CC L ⟨e, []⟩) := by
  intro k
  induction k with
  | zero =>
    intro i u e hk hi9 hu h0 h5 h9 h10
    rw [evL_at (fpart Tryd.f53 [1,1,0,1,0,0]) hL]
    have hi : ¬ ((i : Int) < (s.length : Int)) := by omega
    rw [List.drop_eq_nil_of_le (by omega)]
    unfold decF
    obtain ⟨ev, eo, so, co, ⟨hev, hco⟩, R⟩ := RULES CC; rw [← hev]
    simp only [fpart, part', Tryd.f53, Option.getD]
    simp (maxSteps := 5000000) only [SA, SB, SD, R, guardAt, binP, intP, indexAddrP, elemsOf, readCells, lenP, lenAt, resultsP, resultP, oneOr, reduceCtorEq, reduceIte, Nat.reduceEqDiff, Nat.reduceAdd, Nat.zero_add, Nat.reduceMul, Nat.reduceLT, Nat.reduceLeDiff, Int.reduceLT, Int.reduceNeg, Int.reduceLE, appendP, appendAt, letGo, setLoc, locVal, Int.reduceToNat, boxCells, und, TG, SE, h9, h10, hi]
    exact ⟨_, .inl ⟨rfl, rfl⟩⟩
  | succ k ih =>
    intro i u e hk hi9 hu h0 h5 h9 h10
    rw [evL_at (fpart Tryd.f53 [1,1,0,1,0,0]) hL]
    have hi : ((i : Int) < (s.length : Int)) := by omega
    have hdr : s.drop i = (s[i]'(by omega)) :: s.drop (i + 1) := List.drop_eq_getElem_cons (by omega)
    have hx : s[i]? = some (s[i]'(by omega)) := by simp
    generalize s[i]'(by omega) = c at *
    have hix := ix_str s i c hx
    have hc256 : c.toNat < 256 := c.toNat_lt
    have w1 := wrap_i64 (n := (i : Int) + 1) ⟨by omega, by omega⟩
    have w7 := wrap_i64 (n := 7 * (i : Int)) ⟨by omega, by omega⟩
    have cast1 : ((i + 1 : Nat) : Int) = (i : Int) + 1 := by omega
    have key := fun u e => ih (i + 1) u e (by omega)
    rw [cast1] at key
    rw [hdr]
    unfold decF
    clear hx hdr
    generalize c.toNat = n at *
    have ha := and127 n hc256
    have cv := conv_u8_u64 (n % 128) (by omega)
    by_cases z1 : (0 < i ∧ n = 0) ∨ (i = 9 ∧ 1 < n)
    · rw [if_pos z1]
      by_cases g : (i : Int) > 0
      · by_cases g0 : n = 0
        · have g0p : ((n : Int) == 0) = true := by rw [g0]; rfl
          obtain ⟨ev, eo, so, co, ⟨hev, hco⟩, R⟩ := RULES CC; rw [← hev]
          simp only [fpart, part', Tryd.f53, Option.getD]
          simp (maxSteps := 5000000) only [SA, SB, SD, R, guardAt, binP, intP, indexAddrP, elemsOf, readCells, lenP, lenAt, resultsP, resultP, oneOr, reduceCtorEq, reduceIte, Nat.reduceEqDiff, Nat.reduceAdd, Nat.zero_add, Nat.reduceMul, Nat.reduceLT, Nat.reduceLeDiff, Int.reduceLT, Int.reduceNeg, Int.reduceLE, appendP, appendAt, letGo, setLoc, locVal, Int.reduceToNat, boxCells, und, TG, SE, h0, h5, h9, h10, hi, hix, Option.map_some, g, g0p]
          exact ⟨_, .inr ⟨rfl, by simp (maxSteps := 5000000) only [SA, SB, SD, R, guardAt, binP, intP, indexAddrP, elemsOf, readCells, lenP, lenAt, resultsP, resultP, oneOr, reduceCtorEq, reduceIte, Nat.reduceEqDiff, Nat.reduceAdd, Nat.zero_add, Nat.reduceMul, Nat.reduceLT, Nat.reduceLeDiff, Int.reduceLT, Int.reduceNeg, Int.reduceLE, appendP, appendAt, letGo, setLoc, locVal, Int.reduceToNat, boxCells, und], by simp (maxSteps := 5000000) only [SA, SB, SD, R, guardAt, binP, intP, indexAddrP, elemsOf, readCells, lenP, lenAt, resultsP, resultP, oneOr, reduceCtorEq, reduceIte, Nat.reduceEqDiff, Nat.reduceAdd, Nat.zero_add, Nat.reduceMul, Nat.reduceLT, Nat.reduceLeDiff, Int.reduceLT, Int.reduceNeg, Int.reduceLE, appendP, appendAt, letGo, setLoc, locVal, Int.reduceToNat, boxCells, und], by simp (maxSteps := 5000000) only [SA, SB, SD, R, guardAt, binP, intP, indexAddrP, elemsOf, readCells, lenP, lenAt, resultsP, resultP, oneOr, reduceCtorEq, reduceIte, Nat.reduceEqDiff, Nat.reduceAdd, Nat.zero_add, Nat.reduceMul, Nat.reduceLT, Nat.reduceLeDiff, Int.reduceLT, Int.reduceNeg, Int.reduceLE, appendP, appendAt, letGo, setLoc, locVal, Int.reduceToNat, boxCells, und]⟩⟩
        · have g0p : ((n : Int) == 0) = false := by rw [beq_eq_false_iff_ne]; omega
          have g9 : ((i : Int) == 9) = true := by rw [beq_iff_eq]; omega
          have g1 : (n : Int) > 1 := by omega
          obtain ⟨ev, eo, so, co, ⟨hev, hco⟩, R⟩ := RULES CC; rw [← hev]
          simp only [fpart, part', Tryd.f53, Option.getD]
          simp (maxSteps := 5000000) only [SA, SB, SD, R, guardAt, binP, intP, indexAddrP, elemsOf, readCells, lenP, lenAt, resultsP, resultP, oneOr, reduceCtorEq, reduceIte, Nat.reduceEqDiff, Nat.reduceAdd, Nat.zero_add, Nat.reduceMul, Nat.reduceLT, Nat.reduceLeDiff, Int.reduceLT, Int.reduceNeg, Int.reduceLE, appendP, appendAt, letGo, setLoc, locVal, Int.reduceToNat, boxCells, und, TG, SE, h0, h5, h9, h10, hi, hix, Option.map_some, g, g0p, g9, g1]
          exact ⟨_, .inr ⟨rfl, by simp (maxSteps := 5000000) only [SA, SB, SD, R, guardAt, binP, intP, indexAddrP, elemsOf, readCells, lenP, lenAt, resultsP, resultP, oneOr, reduceCtorEq, reduceIte, Nat.reduceEqDiff, Nat.reduceAdd, Nat.zero_add, Nat.reduceMul, Nat.reduceLT, Nat.reduceLeDiff, Int.reduceLT, Int.reduceNeg, Int.reduceLE, appendP, appendAt, letGo, setLoc, locVal, Int.reduceToNat, boxCells, und], by simp (maxSteps := 5000000) only [SA, SB, SD, R, guardAt, binP, intP, indexAddrP, elemsOf, readCells, lenP, lenAt, resultsP, resultP, oneOr, reduceCtorEq, reduceIte, Nat.reduceEqDiff, Nat.reduceAdd, Nat.zero_add, Nat.reduceMul, Nat.reduceLT, Nat.reduceLeDiff, Int.reduceLT, Int.reduceNeg, Int.reduceLE, appendP, appendAt, letGo, setLoc, locVal, Int.reduceToNat, boxCells, und], by simp (maxSteps := 5000000) only [SA, SB, SD, R, guardAt, binP, intP, indexAddrP, elemsOf, readCells, lenP, lenAt, resultsP, resultP, oneOr, reduceCtorEq, reduceIte, Nat.reduceEqDiff, Nat.reduceAdd, Nat.zero_add, Nat.reduceMul, Nat.reduceLT, Nat.reduceLeDiff, Int.reduceLT, Int.reduceNeg, Int.reduceLE, appendP, appendAt, letGo, setLoc, locVal, Int.reduceToNat, boxCells, und]⟩⟩
      · omega
    rw [if_neg z1]
    have hi8 : i ≤ 8 ∨ (i = 9 ∧ n % 128 ≤ 1) := by omega
    have hsh := shl_at (n % 128) i (by omega) hi8
    have hlt : n % 128 * 128 ^ i < 18446744073709551616 ∧ u + n % 128 * 128 ^ i < 18446744073709551616 := by
      rcases hi8 with h | ⟨h, h2⟩
      · have h1 : 128 ^ i ≤ 128 ^ 8 := Nat.pow_le_pow_right (by decide) h
        have e : 128 ^ 8 = 72057594037927936 := by decide
        have : n % 128 * 128 ^ i ≤ 127 * 72057594037927936 := Nat.mul_le_mul (by omega) (by omega)
        omega
      · subst h
        have e : 128 ^ 9 = 9223372036854775808 := by decide
        rw [e] at hu ⊢
        omega
    have hor := or_at u (n % 128) i hu hi9 hlt.1 hlt.2
    have hnx := sum_lt u (n % 128) i hu (by omega)
    have key := fun e h => key (u + n % 128 * 128 ^ i) e h hnx
    generalize u + n % 128 * 128 ^ i = v at *
    generalize n % 128 * 128 ^ i = y at *
    by_cases d : n < 128
    · have dp : (n : Int) < 128 := by omega
      rw [if_pos d]
      by_cases g : (i : Int) > 0
      · have g0p : ((n : Int) == 0) = false := by rw [beq_eq_false_iff_ne]; omega
        by_cases g9 : i = 9
        · have g9p : ((i : Int) == 9) = true := by rw [g9]; rfl
          have g1 : ¬ (n : Int) > 1 := by omega
          obtain ⟨ev, eo, so, co, ⟨hev, hco⟩, R⟩ := RULES CC; rw [← hev]
          simp only [fpart, part', Tryd.f53, Option.getD]
          simp (maxSteps := 5000000) only [SA, SB, SD, R, guardAt, binP, intP, indexAddrP, elemsOf, readCells, lenP, lenAt, resultsP, resultP, oneOr, reduceCtorEq, reduceIte, Nat.reduceEqDiff, Nat.reduceAdd, Nat.zero_add, Nat.reduceMul, Nat.reduceLT, Nat.reduceLeDiff, Int.reduceLT, Int.reduceNeg, Int.reduceLE, appendP, appendAt, letGo, setLoc, locVal, Int.reduceToNat, boxCells, und, TG, SE, h0, h5, h9, h10, hi, hix, Option.map_some, dp, g, g0p, g9p, g1, ha, cv, w1, w7, hsh, hor]
          exact ⟨_, rfl, by simp (maxSteps := 5000000) only [SA, SB, SD, R, guardAt, binP, intP, indexAddrP, elemsOf, readCells, lenP, lenAt, resultsP, resultP, oneOr, reduceCtorEq, reduceIte, Nat.reduceEqDiff, Nat.reduceAdd, Nat.zero_add, Nat.reduceMul, Nat.reduceLT, Nat.reduceLeDiff, Int.reduceLT, Int.reduceNeg, Int.reduceLE, appendP, appendAt, letGo, setLoc, locVal, Int.reduceToNat, boxCells, und], by simp (maxSteps := 5000000) only [SA, SB, SD, R, guardAt, binP, intP, indexAddrP, elemsOf, readCells, lenP, lenAt, resultsP, resultP, oneOr, reduceCtorEq, reduceIte, Nat.reduceEqDiff, Nat.reduceAdd, Nat.zero_add, Nat.reduceMul, Nat.reduceLT, Nat.reduceLeDiff, Int.reduceLT, Int.reduceNeg, Int.reduceLE, appendP, appendAt, letGo, setLoc, locVal, Int.reduceToNat, boxCells, und, cast1], by simp (maxSteps := 5000000) only [SA, SB, SD, R, guardAt, binP, intP, indexAddrP, elemsOf, readCells, lenP, lenAt, resultsP, resultP, oneOr, reduceCtorEq, reduceIte, Nat.reduceEqDiff, Nat.reduceAdd, Nat.zero_add, Nat.reduceMul, Nat.reduceLT, Nat.reduceLeDiff, Int.reduceLT, Int.reduceNeg, Int.reduceLE, appendP, appendAt, letGo, setLoc, locVal, Int.reduceToNat, boxCells, und]⟩
        · have g9p : ((i : Int) == 9) = false := by rw [beq_eq_false_iff_ne]; omega
          obtain ⟨ev, eo, so, co, ⟨hev, hco⟩, R⟩ := RULES CC; rw [← hev]
          simp only [fpart, part', Tryd.f53, Option.getD]
          simp (maxSteps := 5000000) only [SA, SB, SD, R, guardAt, binP, intP, indexAddrP, elemsOf, readCells, lenP, lenAt, resultsP, resultP, oneOr, reduceCtorEq, reduceIte, Nat.reduceEqDiff, Nat.reduceAdd, Nat.zero_add, Nat.reduceMul, Nat.reduceLT, Nat.reduceLeDiff, Int.reduceLT, Int.reduceNeg, Int.reduceLE, appendP, appendAt, letGo, setLoc, locVal, Int.reduceToNat, boxCells, und, TG, SE, h0, h5, h9, h10, hi, hix, Option.map_some, dp, g, g0p, g9p, ha, cv, w1, w7, hsh, hor]
          exact ⟨_, rfl, by simp (maxSteps := 5000000) only [SA, SB, SD, R, guardAt, binP, intP, indexAddrP, elemsOf, readCells, lenP, lenAt, resultsP, resultP, oneOr, reduceCtorEq, reduceIte, Nat.reduceEqDiff, Nat.reduceAdd, Nat.zero_add, Nat.reduceMul, Nat.reduceLT, Nat.reduceLeDiff, Int.reduceLT, Int.reduceNeg, Int.reduceLE, appendP, appendAt, letGo, setLoc, locVal, Int.reduceToNat, boxCells, und], by simp (maxSteps := 5000000) only [SA, SB, SD, R, guardAt, binP, intP, indexAddrP, elemsOf, readCells, lenP, lenAt, resultsP, resultP, oneOr, reduceCtorEq, reduceIte, Nat.reduceEqDiff, Nat.reduceAdd, Nat.zero_add, Nat.reduceMul, Nat.reduceLT, Nat.reduceLeDiff, Int.reduceLT, Int.reduceNeg, Int.reduceLE, appendP, appendAt, letGo, setLoc, locVal, Int.reduceToNat, boxCells, und, cast1], by simp (maxSteps := 5000000) only [SA, SB, SD, R, guardAt, binP, intP, indexAddrP, elemsOf, readCells, lenP, lenAt, resultsP, resultP, oneOr, reduceCtorEq, reduceIte, Nat.reduceEqDiff, Nat.reduceAdd, Nat.zero_add, Nat.reduceMul, Nat.reduceLT, Nat.reduceLeDiff, Int.reduceLT, Int.reduceNeg, Int.reduceLE, appendP, appendAt, letGo, setLoc, locVal, Int.reduceToNat, boxCells, und]⟩
      · have g9p : ((i : Int) == 9) = false := by rw [beq_eq_false_iff_ne]; omega
        obtain ⟨ev, eo, so, co, ⟨hev, hco⟩, R⟩ := RULES CC; rw [← hev]
        simp only [fpart, part', Tryd.f53, Option.getD]
        simp (maxSteps := 5000000) only [SA, SB, SD, R, guardAt, binP, intP, indexAddrP, elemsOf, readCells, lenP, lenAt, resultsP, resultP, oneOr, reduceCtorEq, reduceIte, Nat.reduceEqDiff, Nat.reduceAdd, Nat.zero_add, Nat.reduceMul, Nat.reduceLT, Nat.reduceLeDiff, Int.reduceLT, Int.reduceNeg, Int.reduceLE, appendP, appendAt, letGo, setLoc, locVal, Int.reduceToNat, boxCells, und, TG, SE, h0, h5, h9, h10, hi, hix, Option.map_some, dp, g, g9p, ha, cv, w1, w7, hsh, hor]
        exact ⟨_, rfl, by simp (maxSteps := 5000000) only [SA, SB, SD, R, guardAt, binP, intP, indexAddrP, elemsOf, readCells, lenP, lenAt, resultsP, resultP, oneOr, reduceCtorEq, reduceIte, Nat.reduceEqDiff, Nat.reduceAdd, Nat.zero_add, Nat.reduceMul, Nat.reduceLT, Nat.reduceLeDiff, Int.reduceLT, Int.reduceNeg, Int.reduceLE, appendP, appendAt, letGo, setLoc, locVal, Int.reduceToNat, boxCells, und], by simp (maxSteps := 5000000) only [SA, SB, SD, R, guardAt, binP, intP, indexAddrP, elemsOf, readCells, lenP, lenAt, resultsP, resultP, oneOr, reduceCtorEq, reduceIte, Nat.reduceEqDiff, Nat.reduceAdd, Nat.zero_add, Nat.reduceMul, Nat.reduceLT, Nat.reduceLeDiff, Int.reduceLT, Int.reduceNeg, Int.reduceLE, appendP, appendAt, letGo, setLoc, locVal, Int.reduceToNat, boxCells, und, cast1], by simp (maxSteps := 5000000) only [SA, SB, SD, R, guardAt, binP, intP, indexAddrP, elemsOf, readCells, lenP, lenAt, resultsP, resultP, oneOr, reduceCtorEq, reduceIte, Nat.reduceEqDiff, Nat.reduceAdd, Nat.zero_add, Nat.reduceMul, Nat.reduceLT, Nat.reduceLeDiff, Int.reduceLT, Int.reduceNeg, Int.reduceLE, appendP, appendAt, letGo, setLoc, locVal, Int.reduceToNat, boxCells, und]⟩
    · have dp : ¬ (n : Int) < 128 := by omega
      rw [if_neg d]
      have key := fun e => key e (by omega)
      by_cases g : (i : Int) > 0
      · have g0p : ((n : Int) == 0) = false := by rw [beq_eq_false_iff_ne]; omega
        by_cases g9 : i = 9
        · have g9p : ((i : Int) == 9) = true := by rw [g9]; rfl
          have g1 : ¬ (n : Int) > 1 := by omega
          obtain ⟨ev, eo, so, co, ⟨hev, hco⟩, R⟩ := RULES CC; rw [← hev]
          rw [← hev] at key
          simp only [fpart, part', Tryd.f53, Option.getD]
          simp (maxSteps := 5000000) only [SA, SB, SD, R, guardAt, binP, intP, indexAddrP, elemsOf, readCells, lenP, lenAt, resultsP, resultP, oneOr, reduceCtorEq, reduceIte, Nat.reduceEqDiff, Nat.reduceAdd, Nat.zero_add, Nat.reduceMul, Nat.reduceLT, Nat.reduceLeDiff, Int.reduceLT, Int.reduceNeg, Int.reduceLE, appendP, appendAt, letGo, setLoc, locVal, Int.reduceToNat, boxCells, und, TG, SE, h0, h5, h9, h10, hi, hix, Option.map_some, dp, g, g0p, g9p, g1, ha, cv, w1, w7, hsh, hor]
          exact key _ (by simp (maxSteps := 5000000) only [SA, SB, SD, R, guardAt, binP, intP, indexAddrP, elemsOf, readCells, lenP, lenAt, resultsP, resultP, oneOr, reduceCtorEq, reduceIte, Nat.reduceEqDiff, Nat.reduceAdd, Nat.zero_add, Nat.reduceMul, Nat.reduceLT, Nat.reduceLeDiff, Int.reduceLT, Int.reduceNeg, Int.reduceLE, appendP, appendAt, letGo, setLoc, locVal, Int.reduceToNat, boxCells, und, h0]) (by simp (maxSteps := 5000000) only [SA, SB, SD, R, guardAt, binP, intP, indexAddrP, elemsOf, readCells, lenP, lenAt, resultsP, resultP, oneOr, reduceCtorEq, reduceIte, Nat.reduceEqDiff, Nat.reduceAdd, Nat.zero_add, Nat.reduceMul, Nat.reduceLT, Nat.reduceLeDiff, Int.reduceLT, Int.reduceNeg, Int.reduceLE, appendP, appendAt, letGo, setLoc, locVal, Int.reduceToNat, boxCells, und]) (by simp (maxSteps := 5000000) only [SA, SB, SD, R, guardAt, binP, intP, indexAddrP, elemsOf, readCells, lenP, lenAt, resultsP, resultP, oneOr, reduceCtorEq, reduceIte, Nat.reduceEqDiff, Nat.reduceAdd, Nat.zero_add, Nat.reduceMul, Nat.reduceLT, Nat.reduceLeDiff, Int.reduceLT, Int.reduceNeg, Int.reduceLE, appendP, appendAt, letGo, setLoc, locVal, Int.reduceToNat, boxCells, und, h9]) (by simp (maxSteps := 5000000) only [SA, SB, SD, R, guardAt, binP, intP, indexAddrP, elemsOf, readCells, lenP, lenAt, resultsP, resultP, oneOr, reduceCtorEq, reduceIte, Nat.reduceEqDiff, Nat.reduceAdd, Nat.zero_add, Nat.reduceMul, Nat.reduceLT, Nat.reduceLeDiff, Int.reduceLT, Int.reduceNeg, Int.reduceLE, appendP, appendAt, letGo, setLoc, locVal, Int.reduceToNat, boxCells, und])
        · have g9p : ((i : Int) == 9) = false := by rw [beq_eq_false_iff_ne]; omega
          obtain ⟨ev, eo, so, co, ⟨hev, hco⟩, R⟩ := RULES CC; rw [← hev]
          rw [← hev] at key
          simp only [fpart, part', Tryd.f53, Option.getD]
          simp (maxSteps := 5000000) only [SA, SB, SD, R, guardAt, binP, intP, indexAddrP, elemsOf, readCells, lenP, lenAt, resultsP, resultP, oneOr, reduceCtorEq, reduceIte, Nat.reduceEqDiff, Nat.reduceAdd, Nat.zero_add, Nat.reduceMul, Nat.reduceLT, Nat.reduceLeDiff, Int.reduceLT, Int.reduceNeg, Int.reduceLE, appendP, appendAt, letGo, setLoc, locVal, Int.reduceToNat, boxCells, und, TG, SE, h0, h5, h9, h10, hi, hix, Option.map_some, dp, g, g0p, g9p, ha, cv, w1, w7, hsh, hor]
          exact key _ (by simp (maxSteps := 5000000) only [SA, SB, SD, R, guardAt, binP, intP, indexAddrP, elemsOf, readCells, lenP, lenAt, resultsP, resultP, oneOr, reduceCtorEq, reduceIte, Nat.reduceEqDiff, Nat.reduceAdd, Nat.zero_add, Nat.reduceMul, Nat.reduceLT, Nat.reduceLeDiff, Int.reduceLT, Int.reduceNeg, Int.reduceLE, appendP, appendAt, letGo, setLoc, locVal, Int.reduceToNat, boxCells, und, h0]) (by simp (maxSteps := 5000000) only [SA, SB, SD, R, guardAt, binP, intP, indexAddrP, elemsOf, readCells, lenP, lenAt, resultsP, resultP, oneOr, reduceCtorEq, reduceIte, Nat.reduceEqDiff, Nat.reduceAdd, Nat.zero_add, Nat.reduceMul, Nat.reduceLT, Nat.reduceLeDiff, Int.reduceLT, Int.reduceNeg, Int.reduceLE, appendP, appendAt, letGo, setLoc, locVal, Int.reduceToNat, boxCells, und]) (by simp (maxSteps := 5000000) only [SA, SB, SD, R, guardAt, binP, intP, indexAddrP, elemsOf, readCells, lenP, lenAt, resultsP, resultP, oneOr, reduceCtorEq, reduceIte, Nat.reduceEqDiff, Nat.reduceAdd, Nat.zero_add, Nat.reduceMul, Nat.reduceLT, Nat.reduceLeDiff, Int.reduceLT, Int.reduceNeg, Int.reduceLE, appendP, appendAt, letGo, setLoc, locVal, Int.reduceToNat, boxCells, und, h9]) (by simp (maxSteps := 5000000) only [SA, SB, SD, R, guardAt, binP, intP, indexAddrP, elemsOf, readCells, lenP, lenAt, resultsP, resultP, oneOr, reduceCtorEq, reduceIte, Nat.reduceEqDiff, Nat.reduceAdd, Nat.zero_add, Nat.reduceMul, Nat.reduceLT, Nat.reduceLeDiff, Int.reduceLT, Int.reduceNeg, Int.reduceLE, appendP, appendAt, letGo, setLoc, locVal, Int.reduceToNat, boxCells, und])
      · have g9p : ((i : Int) == 9) = false := by rw [beq_eq_false_iff_ne]; omega
        obtain ⟨ev, eo, so, co, ⟨hev, hco⟩, R⟩ := RULES CC; rw [← hev]
        rw [← hev] at key
        simp only [fpart, part', Tryd.f53, Option.getD]
        simp (maxSteps := 5000000) only [SA, SB, SD, R, guardAt, binP, intP, indexAddrP, elemsOf, readCells, lenP, lenAt, resultsP, resultP, oneOr, reduceCtorEq, reduceIte, Nat.reduceEqDiff, Nat.reduceAdd, Nat.zero_add, Nat.reduceMul, Nat.reduceLT, Nat.reduceLeDiff, Int.reduceLT, Int.reduceNeg, Int.reduceLE, appendP, appendAt, letGo, setLoc, locVal, Int.reduceToNat, boxCells, und, TG, SE, h0, h5, h9, h10, hi, hix, Option.map_some, dp, g, g9p, ha, cv, w1, w7, hsh, hor]
        exact key _ (by simp (maxSteps := 5000000) only [SA, SB, SD, R, guardAt, binP, intP, indexAddrP, elemsOf, readCells, lenP, lenAt, resultsP, resultP, oneOr, reduceCtorEq, reduceIte, Nat.reduceEqDiff, Nat.reduceAdd, Nat.zero_add, Nat.reduceMul, Nat.reduceLT, Nat.reduceLeDiff, Int.reduceLT, Int.reduceNeg, Int.reduceLE, appendP, appendAt, letGo, setLoc, locVal, Int.reduceToNat, boxCells, und, h0]) (by simp (maxSteps := 5000000) only [SA, SB, SD, R, guardAt, binP, intP, indexAddrP, elemsOf, readCells, lenP, lenAt, resultsP, resultP, oneOr, reduceCtorEq, reduceIte, Nat.reduceEqDiff, Nat.reduceAdd, Nat.zero_add, Nat.reduceMul, Nat.reduceLT, Nat.reduceLeDiff, Int.reduceLT, Int.reduceNeg, Int.reduceLE, appendP, appendAt, letGo, setLoc, locVal, Int.reduceToNat, boxCells, und]) (by simp (maxSteps := 5000000) only [SA, SB, SD, R, guardAt, binP, intP, indexAddrP, elemsOf, readCells, lenP, lenAt, resultsP, resultP, oneOr, reduceCtorEq, reduceIte, Nat.reduceEqDiff, Nat.reduceAdd, Nat.zero_add, Nat.reduceMul, Nat.reduceLT, Nat.reduceLeDiff, Int.reduceLT, Int.reduceNeg, Int.reduceLE, appendP, appendAt, letGo, setLoc, locVal, Int.reduceToNat, boxCells, und, h9]) (by simp (maxSteps := 5000000) only [SA, SB, SD, R, guardAt, binP, intP, indexAddrP, elemsOf, readCells, lenP, lenAt, resultsP, resultP, oneOr, reduceCtorEq, reduceIte, Nat.reduceEqDiff, Nat.reduceAdd, Nat.zero_add, Nat.reduceMul, Nat.reduceLT, Nat.reduceLeDiff, Int.reduceLT, Int.reduceNeg, Int.reduceLE, appendP, appendAt, letGo, setLoc, locVal, Int.reduceToNat, boxCells, und])
/-- what 'varint' returns -/
def viV : (Nat × Nat) ⊕ Int → PV
  | .inl (u, k) => .tup [.int .u64 (u : Int), .int .i64 (k : Int), .int .i64 0]
  | .inr c => .tup [.int .u64 0, .int .i64 0, .int .i64 c]
theorem call_varint (s : List UInt8) (hs : s.length ≤ 900000) : callL CC 53 [.str s] [] = some (.ret (viV (decF s 0 0)), []) := by
  rw [callL_enter (fn := Tryd.f53) (c := Tryd.f53.body.getD .skip) rfl rfl fat_wire_varint rfl ok_wire_varint (Nat.le_of_ble_eq_true rfl)]
  have hlen := len_str s
  have hloop := fun e => loop_varint _ rfl s hs s.length 0 0 e (by omega) (by omega) (by decide)
  rw [List.drop_zero] at hloop
  unfold viV
  generalize decF s 0 0 = v at *
  obtain ⟨ev, eo, so, co, ⟨hev, hco⟩, R⟩ := RULES CC; rw [← hev]
  rw [← hev] at hloop
  simp only [fpart, part', Tryd.f53, Option.getD] at hloop ⊢
  simp (maxSteps := 5000000) only [SA, SB, SD, R, guardAt, binP, intP, indexAddrP, elemsOf, readCells, lenP, lenAt, resultsP, resultP, oneOr, reduceCtorEq, reduceIte, Nat.reduceEqDiff, Nat.reduceAdd, Nat.zero_add, Nat.reduceMul, Nat.reduceLT, Nat.reduceLeDiff, Int.reduceLT, Int.reduceNeg, Int.reduceLE, appendP, appendAt, letGo, setLoc, locVal, Int.reduceToNat, boxCells, und, TG, SE, hlen]
  generalize hE : ev _ _ = z
  have hP : PVi v z := by
    rw [← hE]
    exact hloop _ (by simp (maxSteps := 5000000) only [SA, SB, SD, R, guardAt, binP, intP, indexAddrP, elemsOf, readCells, lenP, lenAt, resultsP, resultP, oneOr, reduceCtorEq, reduceIte, Nat.reduceEqDiff, Nat.reduceAdd, Nat.zero_add, Nat.reduceMul, Nat.reduceLT, Nat.reduceLeDiff, Int.reduceLT, Int.reduceNeg, Int.reduceLE, appendP, appendAt, letGo, setLoc, locVal, Int.reduceToNat, boxCells, und]) (by simp (maxSteps := 5000000) only [SA, SB, SD, R, guardAt, binP, intP, indexAddrP, elemsOf, readCells, lenP, lenAt, resultsP, resultP, oneOr, reduceCtorEq, reduceIte, Nat.reduceEqDiff, Nat.reduceAdd, Nat.zero_add, Nat.reduceMul, Nat.reduceLT, Nat.reduceLeDiff, Int.reduceLT, Int.reduceNeg, Int.reduceLE, appendP, appendAt, letGo, setLoc, locVal, Int.reduceToNat, boxCells, und]; rfl) (by simp (maxSteps := 5000000) only [SA, SB, SD, R, guardAt, binP, intP, indexAddrP, elemsOf, readCells, lenP, lenAt, resultsP, resultP, oneOr, reduceCtorEq, reduceIte, Nat.reduceEqDiff, Nat.reduceAdd, Nat.zero_add, Nat.reduceMul, Nat.reduceLT, Nat.reduceLeDiff, Int.reduceLT, Int.reduceNeg, Int.reduceLE, appendP, appendAt, letGo, setLoc, locVal, Int.reduceToNat, boxCells, und]) (by simp (maxSteps := 5000000) only [SA, SB, SD, R, guardAt, binP, intP, indexAddrP, elemsOf, readCells, lenP, lenAt, resultsP, resultP, oneOr, reduceCtorEq, reduceIte, Nat.reduceEqDiff, Nat.reduceAdd, Nat.zero_add, Nat.reduceMul, Nat.reduceLT, Nat.reduceLeDiff, Int.reduceLT, Int.reduceNeg, Int.reduceLE, appendP, appendAt, letGo, setLoc, locVal, Int.reduceToNat, boxCells, und]; rfl)
  match v, hP with
  | .inl (u, k), hP =>
    obtain ⟨e', he, g2, g3, g4⟩ := hP
    subst he
    simp (maxSteps := 5000000) only [SA, SB, SD, R, guardAt, binP, intP, indexAddrP, elemsOf, readCells, lenP, lenAt, resultsP, resultP, oneOr, reduceCtorEq, reduceIte, Nat.reduceEqDiff, Nat.reduceAdd, Nat.zero_add, Nat.reduceMul, Nat.reduceLT, Nat.reduceLeDiff, Int.reduceLT, Int.reduceNeg, Int.reduceLE, appendP, appendAt, letGo, setLoc, locVal, Int.reduceToNat, boxCells, und, TG, SE, g2, g3, g4]
  | .inr c, hP =>
    obtain ⟨e', ⟨hc, he⟩ | ⟨he, g2, g3, g4⟩⟩ := hP
    · subst he
      subst hc
      simp (maxSteps := 5000000) only [SA, SB, SD, R, guardAt, binP, intP, indexAddrP, elemsOf, readCells, lenP, lenAt, resultsP, resultP, oneOr, reduceCtorEq, reduceIte, Nat.reduceEqDiff, Nat.reduceAdd, Nat.zero_add, Nat.reduceMul, Nat.reduceLT, Nat.reduceLeDiff, Int.reduceLT, Int.reduceNeg, Int.reduceLE, appendP, appendAt, letGo, setLoc, locVal, Int.reduceToNat, boxCells, und, TG, SE]
    · subst he
      simp (maxSteps := 5000000) only [SA, SB, SD, R, guardAt, binP, intP, indexAddrP, elemsOf, readCells, lenP, lenAt, resultsP, resultP, oneOr, reduceCtorEq, reduceIte, Nat.reduceEqDiff, Nat.reduceAdd, Nat.zero_add, Nat.reduceMul, Nat.reduceLT, Nat.reduceLeDiff, Int.reduceLT, Int.reduceNeg, Int.reduceLE, appendP, appendAt, letGo, setLoc, locVal, Int.reduceToNat, boxCells, und, TG, SE, g2, g3, g4]
theorem op_varint (s : List UInt8) (hs : s.length ≤ 900000) (bx) : callOp CC (callL CC) 53 [.str s] bx = some (.ret (viV (decF s 0 0)), bx) := callOp_of rfl (by simp only [SA, Bool.and_true]) (call_varint s hs) (by rcases decF s 0 0 with ⟨u, k⟩ | c <;> rfl)
theorem ok_wire_Reader_Err : fnOK CC Tryd.f52 (Tryd.f52.body.getD .skip) = true := by kernel_rfl
theorem fat_wire_Reader_Err : CC.P.funcs[52]? = some Tryd.f52 := by kernel_rfl
theorem ok_wire_Reader_Fail : fnOK CC Tryd.f51 (Tryd.f51.body.getD .skip) = true := by kernel_rfl
theorem fat_wire_Reader_Fail : CC.P.funcs[51]? = some Tryd.f51 := by kernel_rfl
theorem ok_wire_Reader_Left : fnOK CC Tryd.f54 (Tryd.f54.body.getD .skip) = true := by kernel_rfl
theorem fat_wire_Reader_Left : CC.P.funcs[54]? = some Tryd.f54 := by kernel_rfl
theorem ok_wire_Reader_End : fnOK CC Tryd.f33 (Tryd.f33.body.getD .skip) = true := by kernel_rfl
theorem fat_wire_Reader_End : CC.P.funcs[33]? = some Tryd.f33 := by kernel_rfl
theorem ok_wire_Reader_Int : fnOK CC Tryd.f32 (Tryd.f32.body.getD .skip) = true := by kernel_rfl
theorem fat_wire_Reader_Int : CC.P.funcs[32]? = some Tryd.f32 := by kernel_rfl
theorem ok_wire_Reader_Count : fnOK CC Tryd.f68 (Tryd.f68.body.getD .skip) = true := by kernel_rfl
theorem fat_wire_Reader_Count : CC.P.funcs[68]? = some Tryd.f68 := by kernel_rfl
theorem ok_wire_Reader_Text : fnOK CC Tryd.f50 (Tryd.f50.body.getD .skip) = true := by kernel_rfl
theorem fat_wire_Reader_Text : CC.P.funcs[50]? = some Tryd.f50 := by kernel_rfl
def RdW (l : List UInt8) (e : Int) : PBox := .cells 64 [.str l, .int .i64 e, .bool true]
def unzz (u : Nat) : Int := if u % 2 = 1 then -1 - ((u / 2 : Nat) : Int) else ((u / 2 : Nat) : Int)
/-- reading a number: the number, the rest, the error -/
def rdI (l : List UInt8) (e : Int) : Int × List UInt8 × Int := if e ≠ 0 then (0, l, e) else match decF l 0 0 with
  | .inl (u, k) => (unzz u, l.drop k, 0)
  | .inr c => (0, l, c)
/-- reading a length of at most 60 -/
def rdC (l : List UInt8) (e : Int) : Int × List UInt8 × Int := if (rdI l e).2.2 ≠ 0 then (0, (rdI l e).2.1, (rdI l e).2.2) else if (rdI l e).1 < 0 then (0, (rdI l e).2.1, 4) else if (rdI l e).1 > 60 then (0, (rdI l e).2.1, 3) else rdI l e
/-- reading a string of at most 60 bytes -/
def rdT (l : List UInt8) (e : Int) : List UInt8 × List UInt8 × Int := if (rdC l e).2.2 ≠ 0 then ([], (rdC l e).2.1, (rdC l e).2.2) else if (rdC l e).1 > ((rdC l e).2.1.length : Int) then ([], (rdC l e).2.1, 5) else ((rdC l e).2.1.take (rdC l e).1.toNat, (rdC l e).2.1.drop (rdC l e).1.toNat, 0)
theorem callOp_imp {f : FuncId} {args : List PV} {bx bx' : List PBox} {r : CR} (hp : pureL args = false) (h : callL CC f args bx = some (r, bx')) (hl : bx'.length ≤ bx.length) : callOp CC (callL CC) f args bx = some (r, bx') := by
  unfold callOp
  rw [if_pos (by rw [hp]; simp), h]
  simp only
  rw [truncB_same hl]
theorem id_lt {bx : List PBox} {id : Nat} {b : PBox} (h : bx[id]? = some b) : id < bx.length := by
  rcases Nat.lt_or_ge id bx.length with h1 | h1
  · exact h1
  · rw [List.getElem?_eq_none h1] at h; cases h
theorem set_same {bx : List PBox} {id : Nat} {b : PBox} (h : bx[id]? = some b) : bx.set id b = bx := by
  apply List.ext_getElem?
  intro j
  rw [List.getElem?_set]
  by_cases e : id = j
  · subst e
    rw [if_pos rfl, if_pos (id_lt h), h]
  · rw [if_neg e]
theorem RDs : ∃ f, CC.P.underlying 64 = some (.struct f) := ⟨(match Tryd.prog.underlying 64 with | some (.struct f) => f | _ => #[]), by kernel_rfl⟩
section
variable (bx : List PBox) (id : Nat) (l : List UInt8) (e : Int)
theorem call_w_Err (hb : bx[id]? = some (RdW l e)) : callL CC 52 [.bp id 0] bx = some (.ret (.int .i64 e), bx) := by
  rw [callL_enter (fn := Tryd.f52) (c := Tryd.f52.body.getD .skip) rfl rfl fat_wire_Reader_Err rfl ok_wire_Reader_Err (Nat.le_of_ble_eq_true rfl)]
  obtain ⟨tr, htr⟩ := RDs
  have hset : True := trivial
  have hss : True := trivial
  unfold RdW at *
  obtain ⟨ev, eo, so, co, ⟨hev, hco⟩, R⟩ := RULES CC; rw [← hev]
  simp only [fpart, part', Tryd.f52, Option.getD]
  simp (maxSteps := 5000000) only [SA, SB, SD, R, guardAt, binP, intP, indexAddrP, elemsOf, readCells, lenP, lenAt, resultsP, resultP, oneOr, reduceCtorEq, reduceIte, Nat.reduceEqDiff, Nat.reduceAdd, Nat.zero_add, Nat.reduceMul, Nat.reduceLT, Nat.reduceLeDiff, Int.reduceLT, Int.reduceNeg, Int.reduceLE, appendP, appendAt, letGo, setLoc, locVal, Int.reduceToNat, boxCells, und, TG, SE, unP, htr, hb, hset, hss, loadR, loadP, storeR, storeK, storeCellsP, laid, lay, nchP, callAl, extP, List.getElem?_cons_zero, List.getElem?_cons_succ, Option.map_some, List.set_cons_zero, List.set_cons_succ, List.take_succ_cons, List.take_zero, List.drop_nil, List.filter_nil, List.cons_append, Nat.le_refl, Int.reduceBEq, Int.reduceBNe, Bool.not_true, Bool.not_false, hset]
theorem op_w_Err (hb : bx[id]? = some (RdW l e)) : callOp CC (callL CC) 52 [.bp id 0] bx = some (.ret (.int .i64 e), bx) := callOp_imp rfl (call_w_Err bx id l e hb) (Nat.le_refl _)
theorem call_w_Fail (c : Int) (hb : bx[id]? = some (RdW l e)) : callL CC 51 [.bp id 0, .int .i64 c] bx = some (.ret (.tup []), bx.set id (RdW l (if e = 0 then c else e))) := by
  rw [callL_enter (fn := Tryd.f51) (c := Tryd.f51.body.getD .skip) rfl rfl fat_wire_Reader_Fail rfl ok_wire_Reader_Fail (Nat.le_of_ble_eq_true rfl)]
  obtain ⟨tr, htr⟩ := RDs
  have her := op_w_Err bx id l e hb
  have hss : True := trivial
  have hset : True := trivial
  have hsm := set_same hb
  by_cases e0 : e = 0
  · have e0p : (e == 0) = true := by simp [e0]
    rw [if_pos e0]
    unfold RdW at *
    clear hsm
    obtain ⟨ev, eo, so, co, ⟨hev, hco⟩, R⟩ := RULES CC; rw [← hev]
    rw [← hco] at her
    simp only [fpart, part', Tryd.f51, Option.getD]
    simp (maxSteps := 5000000) only [SA, SB, SD, R, guardAt, binP, intP, indexAddrP, elemsOf, readCells, lenP, lenAt, resultsP, resultP, oneOr, reduceCtorEq, reduceIte, Nat.reduceEqDiff, Nat.reduceAdd, Nat.zero_add, Nat.reduceMul, Nat.reduceLT, Nat.reduceLeDiff, Int.reduceLT, Int.reduceNeg, Int.reduceLE, appendP, appendAt, letGo, setLoc, locVal, Int.reduceToNat, boxCells, und, TG, SE, unP, htr, hb, hset, hss, loadR, loadP, storeR, storeK, storeCellsP, laid, lay, nchP, callAl, extP, List.getElem?_cons_zero, List.getElem?_cons_succ, Option.map_some, List.set_cons_zero, List.set_cons_succ, List.take_succ_cons, List.take_zero, List.drop_nil, List.filter_nil, List.cons_append, Nat.le_refl, Int.reduceBEq, Int.reduceBNe, Bool.not_true, Bool.not_false, her, e0p]
  · have e0p : (e == 0) = false := by simpa using e0
    rw [if_neg e0, hsm]
    unfold RdW at *
    obtain ⟨ev, eo, so, co, ⟨hev, hco⟩, R⟩ := RULES CC; rw [← hev]
    rw [← hco] at her
    simp only [fpart, part', Tryd.f51, Option.getD]
    simp (maxSteps := 5000000) only [SA, SB, SD, R, guardAt, binP, intP, indexAddrP, elemsOf, readCells, lenP, lenAt, resultsP, resultP, oneOr, reduceCtorEq, reduceIte, Nat.reduceEqDiff, Nat.reduceAdd, Nat.zero_add, Nat.reduceMul, Nat.reduceLT, Nat.reduceLeDiff, Int.reduceLT, Int.reduceNeg, Int.reduceLE, appendP, appendAt, letGo, setLoc, locVal, Int.reduceToNat, boxCells, und, TG, SE, unP, htr, hb, hset, hss, loadR, loadP, storeR, storeK, storeCellsP, laid, lay, nchP, callAl, extP, List.getElem?_cons_zero, List.getElem?_cons_succ, Option.map_some, List.set_cons_zero, List.set_cons_succ, List.take_succ_cons, List.take_zero, List.drop_nil, List.filter_nil, List.cons_append, Nat.le_refl, Int.reduceBEq, Int.reduceBNe, Bool.not_true, Bool.not_false, her, e0p]
theorem op_w_Fail (c : Int) (hb : bx[id]? = some (RdW l e)) : callOp CC (callL CC) 51 [.bp id 0, .int .i64 c] bx = some (.ret (.tup []), bx.set id (RdW l (if e = 0 then c else e))) := callOp_imp rfl (call_w_Fail bx id l e c hb) (by rw [List.length_set]; exact Nat.le_refl _)
theorem call_w_Left (hb : bx[id]? = some (RdW l e)) : callL CC 54 [.bp id 0] bx = some (.ret (.int .i64 (if e = 0 then (l.length : Int) else 0)), bx) := by
  rw [callL_enter (fn := Tryd.f54) (c := Tryd.f54.body.getD .skip) rfl rfl fat_wire_Reader_Left rfl ok_wire_Reader_Left (Nat.le_of_ble_eq_true rfl)]
  obtain ⟨tr, htr⟩ := RDs
  have her := op_w_Err bx id l e hb
  have hlen := len_str l
  have hss : True := trivial
  have hset : True := trivial
  unfold RdW at *
  by_cases e0 : e = 0
  · have e0p : (e != 0) = false := by simp [e0]
    rw [if_pos e0]
    obtain ⟨ev, eo, so, co, ⟨hev, hco⟩, R⟩ := RULES CC; rw [← hev]
    rw [← hco] at her
    simp only [fpart, part', Tryd.f54, Option.getD]
    simp (maxSteps := 5000000) only [SA, SB, SD, R, guardAt, binP, intP, indexAddrP, elemsOf, readCells, lenP, lenAt, resultsP, resultP, oneOr, reduceCtorEq, reduceIte, Nat.reduceEqDiff, Nat.reduceAdd, Nat.zero_add, Nat.reduceMul, Nat.reduceLT, Nat.reduceLeDiff, Int.reduceLT, Int.reduceNeg, Int.reduceLE, appendP, appendAt, letGo, setLoc, locVal, Int.reduceToNat, boxCells, und, TG, SE, unP, htr, hb, hset, hss, loadR, loadP, storeR, storeK, storeCellsP, laid, lay, nchP, callAl, extP, List.getElem?_cons_zero, List.getElem?_cons_succ, Option.map_some, List.set_cons_zero, List.set_cons_succ, List.take_succ_cons, List.take_zero, List.drop_nil, List.filter_nil, List.cons_append, Nat.le_refl, Int.reduceBEq, Int.reduceBNe, Bool.not_true, Bool.not_false, her, e0p, hlen]
  · have e0p : (e != 0) = true := by simpa using e0
    rw [if_neg e0]
    obtain ⟨ev, eo, so, co, ⟨hev, hco⟩, R⟩ := RULES CC; rw [← hev]
    rw [← hco] at her
    simp only [fpart, part', Tryd.f54, Option.getD]
    simp (maxSteps := 5000000) only [SA, SB, SD, R, guardAt, binP, intP, indexAddrP, elemsOf, readCells, lenP, lenAt, resultsP, resultP, oneOr, reduceCtorEq, reduceIte, Nat.reduceEqDiff, Nat.reduceAdd, Nat.zero_add, Nat.reduceMul, Nat.reduceLT, Nat.reduceLeDiff, Int.reduceLT, Int.reduceNeg, Int.reduceLE, appendP, appendAt, letGo, setLoc, locVal, Int.reduceToNat, boxCells, und, TG, SE, unP, htr, hb, hset, hss, loadR, loadP, storeR, storeK, storeCellsP, laid, lay, nchP, callAl, extP, List.getElem?_cons_zero, List.getElem?_cons_succ, Option.map_some, List.set_cons_zero, List.set_cons_succ, List.take_succ_cons, List.take_zero, List.drop_nil, List.filter_nil, List.cons_append, Nat.le_refl, Int.reduceBEq, Int.reduceBNe, Bool.not_true, Bool.not_false, her, e0p]
theorem op_w_Left (hb : bx[id]? = some (RdW l e)) : callOp CC (callL CC) 54 [.bp id 0] bx = some (.ret (.int .i64 (if e = 0 then (l.length : Int) else 0)), bx) := callOp_imp rfl (call_w_Left bx id l e hb) (Nat.le_refl _)
/-- the error at the end -/
def endE (l : List UInt8) (e : Int) : Int := if e ≠ 0 then e else if l = [] then 0 else 23
theorem call_w_End (hb : bx[id]? = some (RdW l e)) : callL CC 33 [.bp id 0] bx = some (.ret (.int .i64 (endE l e)), bx) := by
  rw [callL_enter (fn := Tryd.f33) (c := Tryd.f33.body.getD .skip) rfl rfl fat_wire_Reader_End rfl ok_wire_Reader_End (Nat.le_of_ble_eq_true rfl)]
  obtain ⟨tr, htr⟩ := RDs
  have her := op_w_Err bx id l e hb
  have hle := op_w_Left bx id l e hb
  have hss : True := trivial
  have hset : True := trivial
  unfold endE
  by_cases e0 : e = 0
  · rw [if_neg (fun h => h e0)]
    rw [if_pos e0] at hle
    by_cases h0 : l = []
    · have hz : ¬ ((l.length : Int) > 0) := by rw [h0]; decide
      rw [if_pos h0]
      rw [e0] at her
      unfold RdW at *
      obtain ⟨ev, eo, so, co, ⟨hev, hco⟩, R⟩ := RULES CC; rw [← hev]
      rw [← hco] at her hle
      simp only [fpart, part', Tryd.f33, Option.getD]
      simp (maxSteps := 5000000) only [SA, SB, SD, R, guardAt, binP, intP, indexAddrP, elemsOf, readCells, lenP, lenAt, resultsP, resultP, oneOr, reduceCtorEq, reduceIte, Nat.reduceEqDiff, Nat.reduceAdd, Nat.zero_add, Nat.reduceMul, Nat.reduceLT, Nat.reduceLeDiff, Int.reduceLT, Int.reduceNeg, Int.reduceLE, appendP, appendAt, letGo, setLoc, locVal, Int.reduceToNat, boxCells, und, TG, SE, unP, htr, hb, hset, hss, loadR, loadP, storeR, storeK, storeCellsP, laid, lay, nchP, callAl, extP, List.getElem?_cons_zero, List.getElem?_cons_succ, Option.map_some, List.set_cons_zero, List.set_cons_succ, List.take_succ_cons, List.take_zero, List.drop_nil, List.filter_nil, List.cons_append, Nat.le_refl, Int.reduceBEq, Int.reduceBNe, Bool.not_true, Bool.not_false, her, hle, hz]
    · have hz : ((l.length : Int) > 0) := by have := List.length_pos_iff.2 h0; omega
      rw [if_neg h0]
      unfold RdW at *
      obtain ⟨ev, eo, so, co, ⟨hev, hco⟩, R⟩ := RULES CC; rw [← hev]
      rw [← hco] at her hle
      simp only [fpart, part', Tryd.f33, Option.getD]
      simp (maxSteps := 5000000) only [SA, SB, SD, R, guardAt, binP, intP, indexAddrP, elemsOf, readCells, lenP, lenAt, resultsP, resultP, oneOr, reduceCtorEq, reduceIte, Nat.reduceEqDiff, Nat.reduceAdd, Nat.zero_add, Nat.reduceMul, Nat.reduceLT, Nat.reduceLeDiff, Int.reduceLT, Int.reduceNeg, Int.reduceLE, appendP, appendAt, letGo, setLoc, locVal, Int.reduceToNat, boxCells, und, TG, SE, unP, htr, hb, hset, hss, loadR, loadP, storeR, storeK, storeCellsP, laid, lay, nchP, callAl, extP, List.getElem?_cons_zero, List.getElem?_cons_succ, Option.map_some, List.set_cons_zero, List.set_cons_succ, List.take_succ_cons, List.take_zero, List.drop_nil, List.filter_nil, List.cons_append, Nat.le_refl, Int.reduceBEq, Int.reduceBNe, Bool.not_true, Bool.not_false, her, hle, hz]
  · rw [if_pos e0]
    rw [if_neg e0] at hle
    have hz : ¬ ((0 : Int) > 0) := by decide
    unfold RdW at *
    obtain ⟨ev, eo, so, co, ⟨hev, hco⟩, R⟩ := RULES CC; rw [← hev]
    rw [← hco] at her hle
    simp only [fpart, part', Tryd.f33, Option.getD]
    simp (maxSteps := 5000000) only [SA, SB, SD, R, guardAt, binP, intP, indexAddrP, elemsOf, readCells, lenP, lenAt, resultsP, resultP, oneOr, reduceCtorEq, reduceIte, Nat.reduceEqDiff, Nat.reduceAdd, Nat.zero_add, Nat.reduceMul, Nat.reduceLT, Nat.reduceLeDiff, Int.reduceLT, Int.reduceNeg, Int.reduceLE, appendP, appendAt, letGo, setLoc, locVal, Int.reduceToNat, boxCells, und, TG, SE, unP, htr, hb, hset, hss, loadR, loadP, storeR, storeK, storeCellsP, laid, lay, nchP, callAl, extP, List.getElem?_cons_zero, List.getElem?_cons_succ, Option.map_some, List.set_cons_zero, List.set_cons_succ, List.take_succ_cons, List.take_zero, List.drop_nil, List.filter_nil, List.cons_append, Nat.le_refl, Int.reduceBEq, Int.reduceBNe, Bool.not_true, Bool.not_false, her, hle, hz]
theorem op_w_End (hb : bx[id]? = some (RdW l e)) : callOp CC (callL CC) 33 [.bp id 0] bx = some (.ret (.int .i64 (endE l e)), bx) := callOp_imp rfl (call_w_End bx id l e hb) (Nat.le_refl _)
end
theorem decF_bd : ∀ (l : List UInt8) (i u : Nat) (v k : Nat), decF l i u = .inl (v, k) → i ≤ 9 → u < 128 ^ i → i < k ∧ k ≤ i + l.length ∧ k ≤ 10 ∧ v < 18446744073709551616
  | [], _, _, _, _, h, _, _ => by cases h
  | c :: r, i, u, v, k, h, hi, hu => by
    unfold decF at h
    split at h
    · cases h
    · rename_i z
      have hn := sum_lt u (c.toNat % 128) i hu (by omega)
      split at h
      · rename_i d
        injection h with h
        injection h with h1 h2
        subst h1
        subst h2
        refine ⟨by omega, by rw [List.length_cons]; omega, by omega, ?_⟩
        rcases Nat.lt_or_ge i 9 with h9 | h9
        · have : 128 ^ (i + 1) ≤ 128 ^ 9 := Nat.pow_le_pow_right (by decide) (by omega)
          have e : 128 ^ 9 = 9223372036854775808 := by decide
          omega
        · have : i = 9 := by omega
          subst this
          have e : 128 ^ 9 = 9223372036854775808 := by decide
          rw [e] at hu ⊢
          have : c.toNat % 128 ≤ 1 := by omega
          have : c.toNat % 128 * 9223372036854775808 ≤ 9223372036854775808 := by omega
          omega
      · rename_i d
        have := decF_bd r (i + 1) _ v k h (by omega) hn
        rw [List.length_cons]
        omega
theorem decF_err : ∀ {l : List UInt8} {i u : Nat} {c : Int}, decF l i u = .inr c → c = 4 ∨ c = 5
  | [], _, _, _, h => by injection h with h; right; exact h.symm
  | x :: r, i, u, c, h => by
    unfold decF at h
    split at h
    · injection h with h; left; exact h.symm
    · split at h
      · cases h
      · exact decF_err h
theorem unzz_in {u : Nat} (h : u < 18446744073709551616) : inI (unzz u) := by unfold unzz inI; split <;> omega
theorem xor_defi (x y : Int) : bitsP .xor .i64 x y = some (IntKind.wrap .i64 (((BitVec.ofInt 64 x ^^^ BitVec.ofInt 64 y : BitVec 64)).toNat : Int)) := rfl
theorem and_def64 (x y : Int) : bitsP .and .u64 x y = some (IntKind.wrap .u64 (((BitVec.ofInt 64 x &&& BitVec.ofInt 64 y : BitVec 64)).toNat : Int)) := rfl
theorem and1 (u : Nat) (h : u < 18446744073709551616) : bitsP .and .u64 (u : Int) 1 = some ((u % 2 : Nat) : Int) := by
  rw [and_def64]
  have e0 : BitVec.ofInt 64 1 = BitVec.ofNat 64 1 := by decide
  rw [e0, BitVec.ofInt_natCast, BitVec.toNat_and, BitVec.toNat_ofNat, BitVec.toNat_ofNat, Nat.mod_eq_of_lt (by omega : u < 2 ^ 64), show (1 : Nat) % 2 ^ 64 = 1 from by decide, Nat.and_one_is_mod, wrap_u64 ⟨by omega, by omega⟩]
theorem xor_i0 (a : Nat) (h : a < 9223372036854775808) : bitsP .xor .i64 (a : Int) 0 = some (a : Int) := by
  rw [xor_defi]
  have e0 : BitVec.ofInt 64 0 = 0#64 := by decide
  rw [e0, BitVec.ofInt_natCast, BitVec.xor_zero, BitVec.toNat_ofNat, Nat.mod_eq_of_lt (by omega), wrap_i64 ⟨by omega, by omega⟩]
theorem xor_i1 (a : Nat) (h : a < 9223372036854775808) : bitsP .xor .i64 (a : Int) (-1) = some (-1 - (a : Int)) := by
  rw [xor_defi]
  have e0 : BitVec.ofInt 64 (-1) = BitVec.allOnes 64 := by decide
  rw [e0, BitVec.ofInt_natCast, BitVec.xor_allOnes, BitVec.toNat_not, BitVec.toNat_ofNat, Nat.mod_eq_of_lt (by omega)]
  congr 1
  simp only [IntKind.wrap, IntKind.bits, IntKind.signed]
  simp
  omega
section
variable (bx : List PBox) (id : Nat) (l : List UInt8) (e : Int)
theorem call_w_RInt (hl : l.length ≤ 900000) (hb : bx[id]? = some (RdW l e)) : callL CC 32 [.bp id 0] bx = some (.ret (.int .i64 (rdI l e).1), bx.set id (RdW (rdI l e).2.1 (rdI l e).2.2)) := by
  rw [callL_enter (fn := Tryd.f32) (c := Tryd.f32.body.getD .skip) rfl rfl fat_wire_Reader_Int rfl ok_wire_Reader_Int (Nat.le_of_ble_eq_true rfl)]
  obtain ⟨tr, htr⟩ := RDs
  have her := op_w_Err bx id l e hb
  have hvi := op_varint l hl
  have hss : ∀ X Y, (bx.set id X).set id Y = bx.set id Y := fun X Y => List.set_set ..
  have hset : ∀ X, (bx.set id X)[id]? = some X := fun X => List.getElem?_set_self (id_lt hb)
  have hsm := set_same hb
  unfold rdI
  by_cases e0 : e = 0
  · have e0p : (e != 0) = false := by simp [e0]
    rw [if_neg (fun h => h e0)]
    have hbd := decF_bd l 0 0
    unfold viV at hvi
    have hde := fun c => decF_err (l := l) (i := 0) (u := 0) (c := c)
    generalize decF l 0 0 = d at *
    match d, hvi, hbd, hde with
    | .inr c, hvi, _, hde =>
      simp only at hvi ⊢
      have c0 := hde c rfl
      have c0p : (c != 0) = true := by rw [bne_iff_ne]; omega
      unfold RdW at *
      obtain ⟨ev, eo, so, co, ⟨hev, hco⟩, R⟩ := RULES CC; rw [← hev]
      rw [← hco] at her hvi
      simp only [fpart, part', Tryd.f32, Option.getD]
      simp (maxSteps := 5000000) only [SA, SB, SD, R, guardAt, binP, intP, indexAddrP, elemsOf, readCells, lenP, lenAt, resultsP, resultP, oneOr, reduceCtorEq, reduceIte, Nat.reduceEqDiff, Nat.reduceAdd, Nat.zero_add, Nat.reduceMul, Nat.reduceLT, Nat.reduceLeDiff, Int.reduceLT, Int.reduceNeg, Int.reduceLE, appendP, appendAt, letGo, setLoc, locVal, Int.reduceToNat, boxCells, und, TG, SE, unP, htr, hb, hset, hss, loadR, loadP, storeR, storeK, storeCellsP, laid, lay, nchP, callAl, extP, List.getElem?_cons_zero, List.getElem?_cons_succ, Option.map_some, List.set_cons_zero, List.set_cons_succ, List.take_succ_cons, List.take_zero, List.drop_nil, List.filter_nil, List.cons_append, Nat.le_refl, Int.reduceBEq, Int.reduceBNe, Bool.not_true, Bool.not_false, her, hvi, e0p, c0p]
    | .inl (u, k), hvi, hbd, _ =>
      obtain ⟨b1, b2, b3, b4⟩ := hbd u k rfl (by omega) (by decide)
      simp only at hvi ⊢
      have hsl := sl_str_lo l k (by omega) (by omega)
      rw [Int.toNat_natCast] at hsl
      have hsh : shiftP .shr .u64 (u : Int) 1 = some (.int .u64 ((u / 2 : Nat) : Int)) := shr_nat (by decide) (by decide)
      have hc1 := conv_u64_i ((u / 2 : Nat) : Int)
      rw [wrap_i64 ⟨by omega, by omega⟩] at hc1
      have hand := and1 u b4
      unfold unzz
      by_cases m : u % 2 = 1
      · rw [if_pos m]
        rw [m] at hand
        have hc2 := conv_u64_i 1
        have h3 : IntKind.wrap .i64 1 = 1 := by decide
        rw [h3] at hc2
        have h4 : IntKind.wrap .i64 (0 - 1) = -1 := by decide
        have hx := xor_i1 (u / 2) (by omega)
        have c1 : ((1 : Nat) : Int) = 1 := rfl
        rw [c1] at hand
        subst e0
        unfold RdW at *
        obtain ⟨ev, eo, so, co, ⟨hev, hco⟩, R⟩ := RULES CC; rw [← hev]
        rw [← hco] at her hvi
        simp only [fpart, part', Tryd.f32, Option.getD]
        simp (maxSteps := 5000000) only [SA, SB, SD, R, guardAt, binP, intP, indexAddrP, elemsOf, readCells, lenP, lenAt, resultsP, resultP, oneOr, reduceCtorEq, reduceIte, Nat.reduceEqDiff, Nat.reduceAdd, Nat.zero_add, Nat.reduceMul, Nat.reduceLT, Nat.reduceLeDiff, Int.reduceLT, Int.reduceNeg, Int.reduceLE, appendP, appendAt, letGo, setLoc, locVal, Int.reduceToNat, boxCells, und, TG, SE, unP, htr, hb, hset, hss, loadR, loadP, storeR, storeK, storeCellsP, laid, lay, nchP, callAl, extP, List.getElem?_cons_zero, List.getElem?_cons_succ, Option.map_some, List.set_cons_zero, List.set_cons_succ, List.take_succ_cons, List.take_zero, List.drop_nil, List.filter_nil, List.cons_append, Nat.le_refl, Int.reduceBEq, Int.reduceBNe, Bool.not_true, Bool.not_false, her, hvi, hsl, hsh, hc1, hand, hc2, h4, hx]
      · rw [if_neg m]
        rw [show u % 2 = 0 by omega] at hand
        have hc2 := conv_u64_i 0
        have h3 : IntKind.wrap .i64 0 = 0 := by decide
        rw [h3] at hc2
        have h4 : IntKind.wrap .i64 (0 - 0) = 0 := by decide
        have hx := xor_i0 (u / 2) (by omega)
        have c1 : ((0 : Nat) : Int) = 0 := rfl
        rw [c1] at hand
        subst e0
        unfold RdW at *
        obtain ⟨ev, eo, so, co, ⟨hev, hco⟩, R⟩ := RULES CC; rw [← hev]
        rw [← hco] at her hvi
        simp only [fpart, part', Tryd.f32, Option.getD]
        simp (maxSteps := 5000000) only [SA, SB, SD, R, guardAt, binP, intP, indexAddrP, elemsOf, readCells, lenP, lenAt, resultsP, resultP, oneOr, reduceCtorEq, reduceIte, Nat.reduceEqDiff, Nat.reduceAdd, Nat.zero_add, Nat.reduceMul, Nat.reduceLT, Nat.reduceLeDiff, Int.reduceLT, Int.reduceNeg, Int.reduceLE, appendP, appendAt, letGo, setLoc, locVal, Int.reduceToNat, boxCells, und, TG, SE, unP, htr, hb, hset, hss, loadR, loadP, storeR, storeK, storeCellsP, laid, lay, nchP, callAl, extP, List.getElem?_cons_zero, List.getElem?_cons_succ, Option.map_some, List.set_cons_zero, List.set_cons_succ, List.take_succ_cons, List.take_zero, List.drop_nil, List.filter_nil, List.cons_append, Nat.le_refl, Int.reduceBEq, Int.reduceBNe, Bool.not_true, Bool.not_false, her, hvi, hsl, hsh, hc1, hand, hc2, h4, hx]
  · have e0p : (e != 0) = true := by simpa using e0
    rw [if_pos e0]
    simp only
    rw [hsm]
    unfold RdW at *
    obtain ⟨ev, eo, so, co, ⟨hev, hco⟩, R⟩ := RULES CC; rw [← hev]
    rw [← hco] at her
    simp only [fpart, part', Tryd.f32, Option.getD]
    simp (maxSteps := 5000000) only [SA, SB, SD, R, guardAt, binP, intP, indexAddrP, elemsOf, readCells, lenP, lenAt, resultsP, resultP, oneOr, reduceCtorEq, reduceIte, Nat.reduceEqDiff, Nat.reduceAdd, Nat.zero_add, Nat.reduceMul, Nat.reduceLT, Nat.reduceLeDiff, Int.reduceLT, Int.reduceNeg, Int.reduceLE, appendP, appendAt, letGo, setLoc, locVal, Int.reduceToNat, boxCells, und, TG, SE, unP, htr, hb, hset, hss, loadR, loadP, storeR, storeK, storeCellsP, laid, lay, nchP, callAl, extP, List.getElem?_cons_zero, List.getElem?_cons_succ, Option.map_some, List.set_cons_zero, List.set_cons_succ, List.take_succ_cons, List.take_zero, List.drop_nil, List.filter_nil, List.cons_append, Nat.le_refl, Int.reduceBEq, Int.reduceBNe, Bool.not_true, Bool.not_false, her, e0p]
theorem op_w_RInt (hl : l.length ≤ 900000) (hb : bx[id]? = some (RdW l e)) : callOp CC (callL CC) 32 [.bp id 0] bx = some (.ret (.int .i64 (rdI l e).1), bx.set id (RdW (rdI l e).2.1 (rdI l e).2.2)) := callOp_imp rfl (call_w_RInt bx id l e hl hb) (by rw [List.length_set]; exact Nat.le_refl _)
end
theorem ok_R02_Reader_Err : fnOK CC Tryd.f66 (Tryd.f66.body.getD .skip) = true := by kernel_rfl
theorem fat_R02_Reader_Err : CC.P.funcs[66]? = some Tryd.f66 := by kernel_rfl
theorem ok_R02_Reader_Fail : fnOK CC Tryd.f67 (Tryd.f67.body.getD .skip) = true := by kernel_rfl
theorem fat_R02_Reader_Fail : CC.P.funcs[67]? = some Tryd.f67 := by kernel_rfl
theorem ok_R02_Reader_End : fnOK CC Tryd.f46 (Tryd.f46.body.getD .skip) = true := by kernel_rfl
theorem fat_R02_Reader_End : CC.P.funcs[46]? = some Tryd.f46 := by kernel_rfl
theorem ok_R02_Reader_Int : fnOK CC Tryd.f64 (Tryd.f64.body.getD .skip) = true := by kernel_rfl
theorem fat_R02_Reader_Int : CC.P.funcs[64]? = some Tryd.f64 := by kernel_rfl
theorem ok_R02_Reader_Count : fnOK CC Tryd.f79 (Tryd.f79.body.getD .skip) = true := by kernel_rfl
theorem fat_R02_Reader_Count : CC.P.funcs[79]? = some Tryd.f79 := by kernel_rfl
theorem ok_R02_Reader_Text : fnOK CC Tryd.f65 (Tryd.f65.body.getD .skip) = true := by kernel_rfl
theorem fat_R02_Reader_Text : CC.P.funcs[65]? = some Tryd.f65 := by kernel_rfl
theorem rdI_len (l : List UInt8) (e : Int) : (rdI l e).2.1.length ≤ l.length := by
  unfold rdI
  split
  · exact Nat.le_refl _
  · split
    · simp only [List.length_drop]; omega
    · exact Nat.le_refl _
theorem rdC_len (l : List UInt8) (e : Int) : (rdC l e).2.1.length ≤ l.length := by
  have := rdI_len l e
  unfold rdC
  repeat' split
  all_goals exact this
theorem rdC_ok {l : List UInt8} {e : Int} (h : (rdC l e).2.2 = 0) : 0 ≤ (rdC l e).1 ∧ (rdC l e).1 ≤ 60 := by
  unfold rdC at h ⊢
  split
  · rename_i h1; rw [if_pos h1] at h; exact absurd h h1
  · rename_i h1
    rw [if_neg h1] at h
    split
    · rename_i h2; rw [if_pos h2] at h; cases h
    · rename_i h2
      rw [if_neg h2] at h
      split
      · rename_i h3; rw [if_pos h3] at h; cases h
      · omega
theorem max60 : maxP [.int .i64 60, .int .i64 0] = some (.int .i64 60) := by rfl
theorem RRs : ∃ f, CC.P.underlying 76 = some (.struct f) := ⟨(match Tryd.prog.underlying 76 with | some (.struct f) => f | _ => #[]), by kernel_rfl⟩
section
variable (bx : List PBox) (id : Nat) (l : List UInt8) (e : Int)
theorem call_w_Count (hl : l.length ≤ 900000) (hb : bx[id]? = some (RdW l e)) : callL CC 68 [.bp id 0, .int .i64 60] bx = some (.ret (.int .i64 (rdC l e).1), bx.set id (RdW (rdC l e).2.1 (rdC l e).2.2)) := by
  rw [callL_enter (fn := Tryd.f68) (c := Tryd.f68.body.getD .skip) rfl rfl fat_wire_Reader_Count rfl ok_wire_Reader_Count (Nat.le_of_ble_eq_true rfl)]
  obtain ⟨tr, htr⟩ := RDs
  have hi := op_w_RInt bx id l e hl hb
  have hss : ∀ X Y, (bx.set id X).set id Y = bx.set id Y := fun X Y => List.set_set ..
  have hset : ∀ X, (bx.set id X)[id]? = some X := fun X => List.getElem?_set_self (id_lt hb)
  unfold rdC
  generalize rdI l e = r at *
  obtain ⟨n, l1, e1⟩ := r
  simp only at *
  have her := op_w_Err (bx.set id (RdW l1 e1)) id l1 e1 (hset _)
  by_cases e0 : e1 = 0
  · have e0p : (e1 != 0) = false := by simp [e0]
    rw [if_neg (fun h => h e0)]
    by_cases n0 : n < 0
    · rw [if_pos n0]
      unfold RdW at *
      obtain ⟨ev, eo, so, co, ⟨hev, hco⟩, R⟩ := RULES CC; rw [← hev]
      rw [← hco] at her hi
      simp only [fpart, part', Tryd.f68, Option.getD]
      simp (maxSteps := 5000000) only [SA, SB, SD, R, guardAt, binP, intP, indexAddrP, elemsOf, readCells, lenP, lenAt, resultsP, resultP, oneOr, reduceCtorEq, reduceIte, Nat.reduceEqDiff, Nat.reduceAdd, Nat.zero_add, Nat.reduceMul, Nat.reduceLT, Nat.reduceLeDiff, Int.reduceLT, Int.reduceNeg, Int.reduceLE, appendP, appendAt, letGo, setLoc, locVal, Int.reduceToNat, boxCells, und, TG, SE, unP, htr, hb, hset, hss, loadR, loadP, storeR, storeK, storeCellsP, laid, lay, nchP, callAl, extP, max60, List.getElem?_cons_zero, List.getElem?_cons_succ, Option.map_some, List.set_cons_zero, List.set_cons_succ, List.take_succ_cons, List.take_zero, List.drop_nil, List.filter_nil, List.cons_append, Nat.le_refl, Int.reduceBEq, Int.reduceBNe, Bool.not_true, Bool.not_false, her, hi, e0p, n0]
    · rw [if_neg n0]
      by_cases n6 : n > 60
      · rw [if_pos n6]
        unfold RdW at *
        obtain ⟨ev, eo, so, co, ⟨hev, hco⟩, R⟩ := RULES CC; rw [← hev]
        rw [← hco] at her hi
        simp only [fpart, part', Tryd.f68, Option.getD]
        simp (maxSteps := 5000000) only [SA, SB, SD, R, guardAt, binP, intP, indexAddrP, elemsOf, readCells, lenP, lenAt, resultsP, resultP, oneOr, reduceCtorEq, reduceIte, Nat.reduceEqDiff, Nat.reduceAdd, Nat.zero_add, Nat.reduceMul, Nat.reduceLT, Nat.reduceLeDiff, Int.reduceLT, Int.reduceNeg, Int.reduceLE, appendP, appendAt, letGo, setLoc, locVal, Int.reduceToNat, boxCells, und, TG, SE, unP, htr, hb, hset, hss, loadR, loadP, storeR, storeK, storeCellsP, laid, lay, nchP, callAl, extP, max60, List.getElem?_cons_zero, List.getElem?_cons_succ, Option.map_some, List.set_cons_zero, List.set_cons_succ, List.take_succ_cons, List.take_zero, List.drop_nil, List.filter_nil, List.cons_append, Nat.le_refl, Int.reduceBEq, Int.reduceBNe, Bool.not_true, Bool.not_false, her, hi, e0p, n0, n6]
      · rw [if_neg n6]
        unfold RdW at *
        obtain ⟨ev, eo, so, co, ⟨hev, hco⟩, R⟩ := RULES CC; rw [← hev]
        rw [← hco] at her hi
        simp only [fpart, part', Tryd.f68, Option.getD]
        simp (maxSteps := 5000000) only [SA, SB, SD, R, guardAt, binP, intP, indexAddrP, elemsOf, readCells, lenP, lenAt, resultsP, resultP, oneOr, reduceCtorEq, reduceIte, Nat.reduceEqDiff, Nat.reduceAdd, Nat.zero_add, Nat.reduceMul, Nat.reduceLT, Nat.reduceLeDiff, Int.reduceLT, Int.reduceNeg, Int.reduceLE, appendP, appendAt, letGo, setLoc, locVal, Int.reduceToNat, boxCells, und, TG, SE, unP, htr, hb, hset, hss, loadR, loadP, storeR, storeK, storeCellsP, laid, lay, nchP, callAl, extP, max60, List.getElem?_cons_zero, List.getElem?_cons_succ, Option.map_some, List.set_cons_zero, List.set_cons_succ, List.take_succ_cons, List.take_zero, List.drop_nil, List.filter_nil, List.cons_append, Nat.le_refl, Int.reduceBEq, Int.reduceBNe, Bool.not_true, Bool.not_false, her, hi, e0p, n0, n6]
  · have e0p : (e1 != 0) = true := by simpa using e0
    rw [if_pos e0]
    unfold RdW at *
    obtain ⟨ev, eo, so, co, ⟨hev, hco⟩, R⟩ := RULES CC; rw [← hev]
    rw [← hco] at her hi
    simp only [fpart, part', Tryd.f68, Option.getD]
    simp (maxSteps := 5000000) only [SA, SB, SD, R, guardAt, binP, intP, indexAddrP, elemsOf, readCells, lenP, lenAt, resultsP, resultP, oneOr, reduceCtorEq, reduceIte, Nat.reduceEqDiff, Nat.reduceAdd, Nat.zero_add, Nat.reduceMul, Nat.reduceLT, Nat.reduceLeDiff, Int.reduceLT, Int.reduceNeg, Int.reduceLE, appendP, appendAt, letGo, setLoc, locVal, Int.reduceToNat, boxCells, und, TG, SE, unP, htr, hb, hset, hss, loadR, loadP, storeR, storeK, storeCellsP, laid, lay, nchP, callAl, extP, max60, List.getElem?_cons_zero, List.getElem?_cons_succ, Option.map_some, List.set_cons_zero, List.set_cons_succ, List.take_succ_cons, List.take_zero, List.drop_nil, List.filter_nil, List.cons_append, Nat.le_refl, Int.reduceBEq, Int.reduceBNe, Bool.not_true, Bool.not_false, her, hi, e0p]
theorem op_w_Count (hl : l.length ≤ 900000) (hb : bx[id]? = some (RdW l e)) : callOp CC (callL CC) 68 [.bp id 0, .int .i64 60] bx = some (.ret (.int .i64 (rdC l e).1), bx.set id (RdW (rdC l e).2.1 (rdC l e).2.2)) := callOp_imp rfl (call_w_Count bx id l e hl hb) (by rw [List.length_set]; exact Nat.le_refl _)
theorem call_w_RText (hl : l.length ≤ 900000) (hb : bx[id]? = some (RdW l e)) : callL CC 50 [.bp id 0, .int .i64 60] bx = some (.ret (.str (rdT l e).1), bx.set id (RdW (rdT l e).2.1 (rdT l e).2.2)) := by
  rw [callL_enter (fn := Tryd.f50) (c := Tryd.f50.body.getD .skip) rfl rfl fat_wire_Reader_Text rfl ok_wire_Reader_Text (Nat.le_of_ble_eq_true rfl)]
  obtain ⟨tr, htr⟩ := RDs
  have hi := op_w_Count bx id l e hl hb
  have hss : ∀ X Y, (bx.set id X).set id Y = bx.set id Y := fun X Y => List.set_set ..
  have hset : ∀ X, (bx.set id X)[id]? = some X := fun X => List.getElem?_set_self (id_lt hb)
  have hok := rdC_ok (l := l) (e := e)
  unfold rdT
  generalize rdC l e = r at *
  obtain ⟨n, l1, e1⟩ := r
  simp only at *
  have her := op_w_Err (bx.set id (RdW l1 e1)) id l1 e1 (hset _)
  have hlen := len_str l1
  by_cases e0 : e1 = 0
  · have e0p : (e1 != 0) = false := by simp [e0]
    rw [if_neg (fun h => h e0)]
    obtain ⟨n1, n2⟩ := hok e0
    by_cases n6 : n > (l1.length : Int)
    · rw [if_pos n6]
      unfold RdW at *
      obtain ⟨ev, eo, so, co, ⟨hev, hco⟩, R⟩ := RULES CC; rw [← hev]
      rw [← hco] at her hi
      simp only [fpart, part', Tryd.f50, Option.getD]
      simp (maxSteps := 5000000) only [SA, SB, SD, R, guardAt, binP, intP, indexAddrP, elemsOf, readCells, lenP, lenAt, resultsP, resultP, oneOr, reduceCtorEq, reduceIte, Nat.reduceEqDiff, Nat.reduceAdd, Nat.zero_add, Nat.reduceMul, Nat.reduceLT, Nat.reduceLeDiff, Int.reduceLT, Int.reduceNeg, Int.reduceLE, appendP, appendAt, letGo, setLoc, locVal, Int.reduceToNat, boxCells, und, TG, SE, unP, htr, hb, hset, hss, loadR, loadP, storeR, storeK, storeCellsP, laid, lay, nchP, callAl, extP, max60, List.getElem?_cons_zero, List.getElem?_cons_succ, Option.map_some, List.set_cons_zero, List.set_cons_succ, List.take_succ_cons, List.take_zero, List.drop_nil, List.filter_nil, List.cons_append, Nat.le_refl, Int.reduceBEq, Int.reduceBNe, Bool.not_true, Bool.not_false, her, hi, e0p, hlen, n6]
    · rw [if_neg n6]
      have hs1 := sl_str_hi l1 n n1 (by omega)
      have hs2 := sl_str_lo l1 n n1 (by omega)
      subst e0
      unfold RdW at *
      obtain ⟨ev, eo, so, co, ⟨hev, hco⟩, R⟩ := RULES CC; rw [← hev]
      rw [← hco] at her hi
      simp only [fpart, part', Tryd.f50, Option.getD]
      simp (maxSteps := 5000000) only [SA, SB, SD, R, guardAt, binP, intP, indexAddrP, elemsOf, readCells, lenP, lenAt, resultsP, resultP, oneOr, reduceCtorEq, reduceIte, Nat.reduceEqDiff, Nat.reduceAdd, Nat.zero_add, Nat.reduceMul, Nat.reduceLT, Nat.reduceLeDiff, Int.reduceLT, Int.reduceNeg, Int.reduceLE, appendP, appendAt, letGo, setLoc, locVal, Int.reduceToNat, boxCells, und, TG, SE, unP, htr, hb, hset, hss, loadR, loadP, storeR, storeK, storeCellsP, laid, lay, nchP, callAl, extP, max60, List.getElem?_cons_zero, List.getElem?_cons_succ, Option.map_some, List.set_cons_zero, List.set_cons_succ, List.take_succ_cons, List.take_zero, List.drop_nil, List.filter_nil, List.cons_append, Nat.le_refl, Int.reduceBEq, Int.reduceBNe, Bool.not_true, Bool.not_false, her, hi, hlen, n6, hs1, hs2]
  · have e0p : (e1 != 0) = true := by simpa using e0
    rw [if_pos e0]
    unfold RdW at *
    clear hok
    obtain ⟨ev, eo, so, co, ⟨hev, hco⟩, R⟩ := RULES CC; rw [← hev]
    rw [← hco] at her hi
    simp only [fpart, part', Tryd.f50, Option.getD]
    simp (maxSteps := 5000000) only [SA, SB, SD, R, guardAt, binP, intP, indexAddrP, elemsOf, readCells, lenP, lenAt, resultsP, resultP, oneOr, reduceCtorEq, reduceIte, Nat.reduceEqDiff, Nat.reduceAdd, Nat.zero_add, Nat.reduceMul, Nat.reduceLT, Nat.reduceLeDiff, Int.reduceLT, Int.reduceNeg, Int.reduceLE, appendP, appendAt, letGo, setLoc, locVal, Int.reduceToNat, boxCells, und, TG, SE, unP, htr, hb, hset, hss, loadR, loadP, storeR, storeK, storeCellsP, laid, lay, nchP, callAl, extP, max60, List.getElem?_cons_zero, List.getElem?_cons_succ, Option.map_some, List.set_cons_zero, List.set_cons_succ, List.take_succ_cons, List.take_zero, List.drop_nil, List.filter_nil, List.cons_append, Nat.le_refl, Int.reduceBEq, Int.reduceBNe, Bool.not_true, Bool.not_false, her, hi, e0p]
theorem op_w_RText (hl : l.length ≤ 900000) (hb : bx[id]? = some (RdW l e)) : callOp CC (callL CC) 50 [.bp id 0, .int .i64 60] bx = some (.ret (.str (rdT l e).1), bx.set id (RdW (rdT l e).2.1 (rdT l e).2.2)) := callOp_imp rfl (call_w_RText bx id l e hl hb) (by rw [List.length_set]; exact Nat.le_refl _)
end
/-- the specification's reader: the whole string, and the place of the rest -/
def RdR (S l : List UInt8) (e : Int) : PBox := .cells 76 [.str S, .int .i64 ((S.length - l.length : Nat) : Int), .int .i64 e, .bool true]
/-- is it the rest? -/
def Sfx (S l : List UInt8) : Prop := S.drop (S.length - l.length) = l ∧ l.length ≤ S.length ∧ S.length ≤ 900000
theorem Sfx.drop {S l : List UInt8} (h : Sfx S l) (k : Nat) : Sfx S (l.drop k) := by
  obtain ⟨h1, h2, h3⟩ := h
  refine ⟨?_, by rw [List.length_drop]; omega, h3⟩
  by_cases hk : k ≤ l.length
  · have e : S.length - (l.drop k).length = (S.length - l.length) + k := by rw [List.length_drop]; omega
    rw [e, ← List.drop_drop, h1]
  · have e : l.drop k = [] := List.drop_eq_nil_of_le (by omega)
    rw [e]
    exact List.drop_eq_nil_of_le (by simp)
theorem Sfx.rdI {S l : List UInt8} (h : Sfx S l) (e : Int) : Sfx S (rdI l e).2.1 := by
  unfold Go.HH.rdI
  split
  · exact h
  · split
    · exact h.drop _
    · exact h
theorem Sfx.rdC {S l : List UInt8} (h : Sfx S l) (e : Int) : Sfx S (rdC l e).2.1 := by
  have := h.rdI e
  unfold Go.HH.rdC
  repeat' split
  all_goals exact this
section
variable (bx : List PBox) (id : Nat) (S l : List UInt8) (e : Int)
theorem call_r_Err (hb : bx[id]? = some (RdR S l e)) : callL CC 66 [.bp id 0] bx = some (.ret (.int .i64 e), bx) := by
  rw [callL_enter (fn := Tryd.f66) (c := Tryd.f66.body.getD .skip) rfl rfl fat_R02_Reader_Err rfl ok_R02_Reader_Err (Nat.le_of_ble_eq_true rfl)]
  obtain ⟨tr, htr⟩ := RRs
  have hset : True := trivial
  have hss : True := trivial
  unfold RdR at *
  obtain ⟨ev, eo, so, co, ⟨hev, hco⟩, R⟩ := RULES CC; rw [← hev]
  simp only [fpart, part', Tryd.f66, Option.getD]
  simp (maxSteps := 5000000) only [SA, SB, SD, R, guardAt, binP, intP, indexAddrP, elemsOf, readCells, lenP, lenAt, resultsP, resultP, oneOr, reduceCtorEq, reduceIte, Nat.reduceEqDiff, Nat.reduceAdd, Nat.zero_add, Nat.reduceMul, Nat.reduceLT, Nat.reduceLeDiff, Int.reduceLT, Int.reduceNeg, Int.reduceLE, appendP, appendAt, letGo, setLoc, locVal, Int.reduceToNat, boxCells, und, TG, SE, unP, htr, hb, hset, hss, loadR, loadP, storeR, storeK, storeCellsP, laid, lay, nchP, callAl, extP, max60, List.getElem?_cons_zero, List.getElem?_cons_succ, Option.map_some, List.set_cons_zero, List.set_cons_succ, List.take_succ_cons, List.take_zero, List.drop_nil, List.filter_nil, List.cons_append, Nat.le_refl, Int.reduceBEq, Int.reduceBNe, Bool.not_true, Bool.not_false, hset]
theorem op_r_Err (hb : bx[id]? = some (RdR S l e)) : callOp CC (callL CC) 66 [.bp id 0] bx = some (.ret (.int .i64 e), bx) := callOp_imp rfl (call_r_Err bx id S l e hb) (Nat.le_refl _)
theorem call_r_Fail (c : Int) (hb : bx[id]? = some (RdR S l e)) : callL CC 67 [.bp id 0, .int .i64 c] bx = some (.ret (.tup []), bx.set id (RdR S l (if e = 0 then c else e))) := by
  rw [callL_enter (fn := Tryd.f67) (c := Tryd.f67.body.getD .skip) rfl rfl fat_R02_Reader_Fail rfl ok_R02_Reader_Fail (Nat.le_of_ble_eq_true rfl)]
  obtain ⟨tr, htr⟩ := RRs
  have her := op_r_Err bx id S l e hb
  have hss : True := trivial
  have hset : True := trivial
  have hsm := set_same hb
  by_cases e0 : e = 0
  · have e0p : (e == 0) = true := by simp [e0]
    rw [if_pos e0]
    unfold RdR at *
    clear hsm
    obtain ⟨ev, eo, so, co, ⟨hev, hco⟩, R⟩ := RULES CC; rw [← hev]
    rw [← hco] at her
    simp only [fpart, part', Tryd.f67, Option.getD]
    simp (maxSteps := 5000000) only [SA, SB, SD, R, guardAt, binP, intP, indexAddrP, elemsOf, readCells, lenP, lenAt, resultsP, resultP, oneOr, reduceCtorEq, reduceIte, Nat.reduceEqDiff, Nat.reduceAdd, Nat.zero_add, Nat.reduceMul, Nat.reduceLT, Nat.reduceLeDiff, Int.reduceLT, Int.reduceNeg, Int.reduceLE, appendP, appendAt, letGo, setLoc, locVal, Int.reduceToNat, boxCells, und, TG, SE, unP, htr, hb, hset, hss, loadR, loadP, storeR, storeK, storeCellsP, laid, lay, nchP, callAl, extP, max60, List.getElem?_cons_zero, List.getElem?_cons_succ, Option.map_some, List.set_cons_zero, List.set_cons_succ, List.take_succ_cons, List.take_zero, List.drop_nil, List.filter_nil, List.cons_append, Nat.le_refl, Int.reduceBEq, Int.reduceBNe, Bool.not_true, Bool.not_false, her, e0p]
  · have e0p : (e == 0) = false := by simpa using e0
    rw [if_neg e0, hsm]
    unfold RdR at *
    obtain ⟨ev, eo, so, co, ⟨hev, hco⟩, R⟩ := RULES CC; rw [← hev]
    rw [← hco] at her
    simp only [fpart, part', Tryd.f67, Option.getD]
    simp (maxSteps := 5000000) only [SA, SB, SD, R, guardAt, binP, intP, indexAddrP, elemsOf, readCells, lenP, lenAt, resultsP, resultP, oneOr, reduceCtorEq, reduceIte, Nat.reduceEqDiff, Nat.reduceAdd, Nat.zero_add, Nat.reduceMul, Nat.reduceLT, Nat.reduceLeDiff, Int.reduceLT, Int.reduceNeg, Int.reduceLE, appendP, appendAt, letGo, setLoc, locVal, Int.reduceToNat, boxCells, und, TG, SE, unP, htr, hb, hset, hss, loadR, loadP, storeR, storeK, storeCellsP, laid, lay, nchP, callAl, extP, max60, List.getElem?_cons_zero, List.getElem?_cons_succ, Option.map_some, List.set_cons_zero, List.set_cons_succ, List.take_succ_cons, List.take_zero, List.drop_nil, List.filter_nil, List.cons_append, Nat.le_refl, Int.reduceBEq, Int.reduceBNe, Bool.not_true, Bool.not_false, her, e0p]
theorem op_r_Fail (c : Int) (hb : bx[id]? = some (RdR S l e)) : callOp CC (callL CC) 67 [.bp id 0, .int .i64 c] bx = some (.ret (.tup []), bx.set id (RdR S l (if e = 0 then c else e))) := callOp_imp rfl (call_r_Fail bx id S l e c hb) (by rw [List.length_set]; exact Nat.le_refl _)
theorem call_r_End (hx : Sfx S l) (hb : bx[id]? = some (RdR S l e)) : callL CC 46 [.bp id 0] bx = some (.ret (.int .i64 (endE l e)), bx) := by
  rw [callL_enter (fn := Tryd.f46) (c := Tryd.f46.body.getD .skip) rfl rfl fat_R02_Reader_End rfl ok_R02_Reader_End (Nat.le_of_ble_eq_true rfl)]
  obtain ⟨tr, htr⟩ := RRs
  have her := op_r_Err bx id S l e hb
  have hlen := len_str S
  have hss : True := trivial
  have hset : True := trivial
  obtain ⟨x1, x2, x3⟩ := hx
  unfold endE
  by_cases e0 : e = 0
  · have e0p : (e != 0) = false := by simp [e0]
    rw [if_neg (fun h => h e0)]
    by_cases h0 : l = []
    · have hz : ¬ (((S.length - l.length : Nat) : Int) < (S.length : Int)) := by rw [h0]; simp
      rw [if_pos h0]
      unfold RdR at *
      obtain ⟨ev, eo, so, co, ⟨hev, hco⟩, R⟩ := RULES CC; rw [← hev]
      rw [← hco] at her
      simp only [fpart, part', Tryd.f46, Option.getD]
      simp (maxSteps := 5000000) only [SA, SB, SD, R, guardAt, binP, intP, indexAddrP, elemsOf, readCells, lenP, lenAt, resultsP, resultP, oneOr, reduceCtorEq, reduceIte, Nat.reduceEqDiff, Nat.reduceAdd, Nat.zero_add, Nat.reduceMul, Nat.reduceLT, Nat.reduceLeDiff, Int.reduceLT, Int.reduceNeg, Int.reduceLE, appendP, appendAt, letGo, setLoc, locVal, Int.reduceToNat, boxCells, und, TG, SE, unP, htr, hb, hset, hss, loadR, loadP, storeR, storeK, storeCellsP, laid, lay, nchP, callAl, extP, max60, List.getElem?_cons_zero, List.getElem?_cons_succ, Option.map_some, List.set_cons_zero, List.set_cons_succ, List.take_succ_cons, List.take_zero, List.drop_nil, List.filter_nil, List.cons_append, Nat.le_refl, Int.reduceBEq, Int.reduceBNe, Bool.not_true, Bool.not_false, her, e0p, hlen, hz]
    · have hz : (((S.length - l.length : Nat) : Int) < (S.length : Int)) := by have := List.length_pos_iff.2 h0; omega
      rw [if_neg h0]
      unfold RdR at *
      obtain ⟨ev, eo, so, co, ⟨hev, hco⟩, R⟩ := RULES CC; rw [← hev]
      rw [← hco] at her
      simp only [fpart, part', Tryd.f46, Option.getD]
      simp (maxSteps := 5000000) only [SA, SB, SD, R, guardAt, binP, intP, indexAddrP, elemsOf, readCells, lenP, lenAt, resultsP, resultP, oneOr, reduceCtorEq, reduceIte, Nat.reduceEqDiff, Nat.reduceAdd, Nat.zero_add, Nat.reduceMul, Nat.reduceLT, Nat.reduceLeDiff, Int.reduceLT, Int.reduceNeg, Int.reduceLE, appendP, appendAt, letGo, setLoc, locVal, Int.reduceToNat, boxCells, und, TG, SE, unP, htr, hb, hset, hss, loadR, loadP, storeR, storeK, storeCellsP, laid, lay, nchP, callAl, extP, max60, List.getElem?_cons_zero, List.getElem?_cons_succ, Option.map_some, List.set_cons_zero, List.set_cons_succ, List.take_succ_cons, List.take_zero, List.drop_nil, List.filter_nil, List.cons_append, Nat.le_refl, Int.reduceBEq, Int.reduceBNe, Bool.not_true, Bool.not_false, her, e0p, hlen, hz]
  · have e0p : (e != 0) = true := by simpa using e0
    rw [if_pos e0]
    unfold RdR at *
    obtain ⟨ev, eo, so, co, ⟨hev, hco⟩, R⟩ := RULES CC; rw [← hev]
    rw [← hco] at her
    simp only [fpart, part', Tryd.f46, Option.getD]
    simp (maxSteps := 5000000) only [SA, SB, SD, R, guardAt, binP, intP, indexAddrP, elemsOf, readCells, lenP, lenAt, resultsP, resultP, oneOr, reduceCtorEq, reduceIte, Nat.reduceEqDiff, Nat.reduceAdd, Nat.zero_add, Nat.reduceMul, Nat.reduceLT, Nat.reduceLeDiff, Int.reduceLT, Int.reduceNeg, Int.reduceLE, appendP, appendAt, letGo, setLoc, locVal, Int.reduceToNat, boxCells, und, TG, SE, unP, htr, hb, hset, hss, loadR, loadP, storeR, storeK, storeCellsP, laid, lay, nchP, callAl, extP, max60, List.getElem?_cons_zero, List.getElem?_cons_succ, Option.map_some, List.set_cons_zero, List.set_cons_succ, List.take_succ_cons, List.take_zero, List.drop_nil, List.filter_nil, List.cons_append, Nat.le_refl, Int.reduceBEq, Int.reduceBNe, Bool.not_true, Bool.not_false, her, e0p]
theorem op_r_End (hx : Sfx S l) (hb : bx[id]? = some (RdR S l e)) : callOp CC (callL CC) 46 [.bp id 0] bx = some (.ret (.int .i64 (endE l e)), bx) := callOp_imp rfl (call_r_End bx id S l e hx hb) (Nat.le_refl _)
end
/-- what the specification's loop over the bytes comes to -/
def PRi (bx : List PBox) (id : Nat) (S l : List UInt8) (v : (Nat × Nat) ⊕ Int) (r : Option (Ex × St)) : Prop := match v with
  | .inl (u, k) => ∃ e', r = some (.ret, ⟨e', bx.set id (RdR S (l.drop k) 0)⟩) ∧ getT e' 2 = .int .i64 (unzz u)
  | .inr c => ∃ e', r = some (.ret, ⟨e', bx.set id (RdR S l c)⟩) ∧ getT e' 2 = .int .i64 0

theorem ri_end (L : Code) (hL : L = fpart Tryd.f64 [1,1,1,0,1,0]) (bx : List PBox) (id : Nat) (S l : List UInt8) (hx : Sfx S l) (hb : bx[id]? = some (RdR S l 0)) (i u : Nat) (e : List PV) (hi9 : i ≤ 9) (hu : u < 128 ^ i) (h0 : getT e 0 = .bp id 0) (h3 : getT e 3 = .int .u64 (u : Int)) (h4 : getT e 4 = .int .i64 i) (hil : l.length ≤ i) : PRi bx id S l (decF (l.drop i) i u) (evL CC L ⟨e, bx⟩) := by
  rw [evL_at (fpart Tryd.f64 [1,1,1,0,1,0,0]) hL]
  have hlen := len_str S
  have hss : True := trivial
  have hset : True := trivial
  obtain ⟨tr, htr⟩ := RRs
  have h10 : (i : Int) < 10 := by omega
  obtain ⟨x1, x2, x3⟩ := hx
  have wat := wrap_i64 (n := ((S.length - l.length : Nat) : Int) + (i : Int)) ⟨by omega, by omega⟩
  have hge : (((S.length - l.length : Nat) : Int) + (i : Int)) ≥ (S.length : Int) := by omega
  rw [List.drop_eq_nil_of_le hil]
  unfold decF PRi
  simp only
  unfold RdR at *
  obtain ⟨ev, eo, so, co, ⟨hev, hco⟩, R⟩ := RULES CC; rw [← hev]
  simp only [fpart, part', Tryd.f64, Option.getD]
  simp (maxSteps := 5000000) only [SA, SB, SD, R, guardAt, binP, intP, indexAddrP, elemsOf, readCells, lenP, lenAt, resultsP, resultP, oneOr, reduceCtorEq, reduceIte, Nat.reduceEqDiff, Nat.reduceAdd, Nat.zero_add, Nat.reduceMul, Nat.reduceLT, Nat.reduceLeDiff, Int.reduceLT, Int.reduceNeg, Int.reduceLE, appendP, appendAt, letGo, setLoc, locVal, Int.reduceToNat, boxCells, und, TG, SE, unP, htr, hb, hset, hss, loadR, loadP, storeR, storeK, storeCellsP, laid, lay, nchP, callAl, extP, max60, List.getElem?_cons_zero, List.getElem?_cons_succ, Option.map_some, List.set_cons_zero, List.set_cons_succ, List.take_succ_cons, List.take_zero, List.drop_nil, List.filter_nil, List.cons_append, Nat.le_refl, Int.reduceBEq, Int.reduceBNe, Bool.not_true, Bool.not_false, h0, h3, h4, h10, hlen, wat, Int.reduceEq, hge]
  exact ⟨_, rfl, by simp (maxSteps := 5000000) only [SA, SB, SD, R, guardAt, binP, intP, indexAddrP, elemsOf, readCells, lenP, lenAt, resultsP, resultP, oneOr, reduceCtorEq, reduceIte, Nat.reduceEqDiff, Nat.reduceAdd, Nat.zero_add, Nat.reduceMul, Nat.reduceLT, Nat.reduceLeDiff, Int.reduceLT, Int.reduceNeg, Int.reduceLE, appendP, appendAt, letGo, setLoc, locVal, Int.reduceToNat, boxCells, und]⟩
theorem ri_bad (L : Code) (hL : L = fpart Tryd.f64 [1,1,1,0,1,0]) (bx : List PBox) (id : Nat) (S l : List UInt8) (hx : Sfx S l) (hb : bx[id]? = some (RdR S l 0)) (i u : Nat) (e : List PV) (hi9 : i ≤ 9) (hu : u < 128 ^ i) (h0 : getT e 0 = .bp id 0) (h3 : getT e 3 = .int .u64 (u : Int)) (h4 : getT e 4 = .int .i64 i) (hil : i < l.length) (z1 : (0 < i ∧ (l[i]'hil).toNat = 0) ∨ (i = 9 ∧ 1 < (l[i]'hil).toNat)) : PRi bx id S l (decF (l.drop i) i u) (evL CC L ⟨e, bx⟩) := by
  rw [evL_at (fpart Tryd.f64 [1,1,1,0,1,0,0]) hL]
  have hlen := len_str S
  have hss : True := trivial
  have hset : True := trivial
  obtain ⟨tr, htr⟩ := RRs
  have h10 : (i : Int) < 10 := by omega
  obtain ⟨x1, x2, x3⟩ := hx
  have wat := wrap_i64 (n := ((S.length - l.length : Nat) : Int) + (i : Int)) ⟨by omega, by omega⟩
  have hge : ¬ (((S.length - l.length : Nat) : Int) + (i : Int)) ≥ (S.length : Int) := by omega
  have hx : l[i]? = some (l[i]'(by omega)) := by simp
  have hdr : l.drop i = (l[i]'(by omega)) :: l.drop (i + 1) := List.drop_eq_getElem_cons (by omega)
  generalize l[i]'(by omega) = c at *
  have hxS : S[(S.length - l.length) + i]? = some c := by rw [← hx]; rw [← List.getElem?_drop, x1]
  have hix := ix_str S ((S.length - l.length) + i) c hxS
  have hcs : (((S.length - l.length) + i : Nat) : Int) = ((S.length - l.length : Nat) : Int) + (i : Int) := by omega
  rw [hcs] at hix
  have hc256 : c.toNat < 256 := c.toNat_lt
  have w1 := wrap_i64 (n := (i : Int) + 1) ⟨by omega, by omega⟩
  have w7 := wrap_i64 (n := 7 * (i : Int)) ⟨by omega, by omega⟩
  have cast1 : ((i + 1 : Nat) : Int) = (i : Int) + 1 := by omega
  rw [hdr]
  unfold decF
  rw [if_pos z1]
  unfold PRi
  simp only
  clear hx hdr hxS
  generalize c.toNat = n at *
  unfold RdR at *
  by_cases g : (i : Int) > 0
  · by_cases g0 : n = 0
    · have g0p : ((n : Int) == 0) = true := by rw [g0]; rfl
      obtain ⟨ev, eo, so, co, ⟨hev, hco⟩, R⟩ := RULES CC; rw [← hev]
      simp only [fpart, part', Tryd.f64, Option.getD]
      simp (maxSteps := 5000000) only [SA, SB, SD, R, guardAt, binP, intP, indexAddrP, elemsOf, readCells, lenP, lenAt, resultsP, resultP, oneOr, reduceCtorEq, reduceIte, Nat.reduceEqDiff, Nat.reduceAdd, Nat.zero_add, Nat.reduceMul, Nat.reduceLT, Nat.reduceLeDiff, Int.reduceLT, Int.reduceNeg, Int.reduceLE, appendP, appendAt, letGo, setLoc, locVal, Int.reduceToNat, boxCells, und, TG, SE, unP, htr, hb, hset, hss, loadR, loadP, storeR, storeK, storeCellsP, laid, lay, nchP, callAl, extP, max60, List.getElem?_cons_zero, List.getElem?_cons_succ, Option.map_some, List.set_cons_zero, List.set_cons_succ, List.take_succ_cons, List.take_zero, List.drop_nil, List.filter_nil, List.cons_append, Nat.le_refl, Int.reduceBEq, Int.reduceBNe, Bool.not_true, Bool.not_false, h0, h3, h4, h10, hlen, wat, Int.reduceEq, hge, hix, g, g0p]
      exact ⟨_, rfl, by simp (maxSteps := 5000000) only [SA, SB, SD, R, guardAt, binP, intP, indexAddrP, elemsOf, readCells, lenP, lenAt, resultsP, resultP, oneOr, reduceCtorEq, reduceIte, Nat.reduceEqDiff, Nat.reduceAdd, Nat.zero_add, Nat.reduceMul, Nat.reduceLT, Nat.reduceLeDiff, Int.reduceLT, Int.reduceNeg, Int.reduceLE, appendP, appendAt, letGo, setLoc, locVal, Int.reduceToNat, boxCells, und]⟩
    · have g0p : ((n : Int) == 0) = false := by rw [beq_eq_false_iff_ne]; omega
      have g9 : ((i : Int) == 9) = true := by rw [beq_iff_eq]; omega
      have g1 : (n : Int) > 1 := by omega
      obtain ⟨ev, eo, so, co, ⟨hev, hco⟩, R⟩ := RULES CC; rw [← hev]
      simp only [fpart, part', Tryd.f64, Option.getD]
      simp (maxSteps := 5000000) only [SA, SB, SD, R, guardAt, binP, intP, indexAddrP, elemsOf, readCells, lenP, lenAt, resultsP, resultP, oneOr, reduceCtorEq, reduceIte, Nat.reduceEqDiff, Nat.reduceAdd, Nat.zero_add, Nat.reduceMul, Nat.reduceLT, Nat.reduceLeDiff, Int.reduceLT, Int.reduceNeg, Int.reduceLE, appendP, appendAt, letGo, setLoc, locVal, Int.reduceToNat, boxCells, und, TG, SE, unP, htr, hb, hset, hss, loadR, loadP, storeR, storeK, storeCellsP, laid, lay, nchP, callAl, extP, max60, List.getElem?_cons_zero, List.getElem?_cons_succ, Option.map_some, List.set_cons_zero, List.set_cons_succ, List.take_succ_cons, List.take_zero, List.drop_nil, List.filter_nil, List.cons_append, Nat.le_refl, Int.reduceBEq, Int.reduceBNe, Bool.not_true, Bool.not_false, h0, h3, h4, h10, hlen, wat, Int.reduceEq, hge, hix, g, g0p, g9, g1]
      exact ⟨_, rfl, by simp (maxSteps := 5000000) only [SA, SB, SD, R, guardAt, binP, intP, indexAddrP, elemsOf, readCells, lenP, lenAt, resultsP, resultP, oneOr, reduceCtorEq, reduceIte, Nat.reduceEqDiff, Nat.reduceAdd, Nat.zero_add, Nat.reduceMul, Nat.reduceLT, Nat.reduceLeDiff, Int.reduceLT, Int.reduceNeg, Int.reduceLE, appendP, appendAt, letGo, setLoc, locVal, Int.reduceToNat, boxCells, und]⟩
  · omega
theorem ri_odd (L : Code) (hL : L = fpart Tryd.f64 [1,1,1,0,1,0]) (bx : List PBox) (id : Nat) (S l : List UInt8) (hx : Sfx S l) (hb : bx[id]? = some (RdR S l 0)) (i u : Nat) (e : List PV) (hi9 : i ≤ 9) (hu : u < 128 ^ i) (h0 : getT e 0 = .bp id 0) (h3 : getT e 3 = .int .u64 (u : Int)) (h4 : getT e 4 = .int .i64 i) (hil : i < l.length) (z1 : ¬ ((0 < i ∧ (l[i]'hil).toNat = 0) ∨ (i = 9 ∧ 1 < (l[i]'hil).toNat))) (d : (l[i]'hil).toNat < 128) (m : (u + (l[i]'hil).toNat % 128 * 128 ^ i) % 2 = 1) : PRi bx id S l (decF (l.drop i) i u) (evL CC L ⟨e, bx⟩) := by
  rw [evL_at (fpart Tryd.f64 [1,1,1,0,1,0,0]) hL]
  have hlen := len_str S
  have hss : True := trivial
  have hset : True := trivial
  obtain ⟨tr, htr⟩ := RRs
  have h10 : (i : Int) < 10 := by omega
  obtain ⟨x1, x2, x3⟩ := hx
  have wat := wrap_i64 (n := ((S.length - l.length : Nat) : Int) + (i : Int)) ⟨by omega, by omega⟩
  have hge : ¬ (((S.length - l.length : Nat) : Int) + (i : Int)) ≥ (S.length : Int) := by omega
  have hx : l[i]? = some (l[i]'(by omega)) := by simp
  have hdr : l.drop i = (l[i]'(by omega)) :: l.drop (i + 1) := List.drop_eq_getElem_cons (by omega)
  generalize l[i]'(by omega) = c at *
  have hxS : S[(S.length - l.length) + i]? = some c := by rw [← hx]; rw [← List.getElem?_drop, x1]
  have hix := ix_str S ((S.length - l.length) + i) c hxS
  have hcs : (((S.length - l.length) + i : Nat) : Int) = ((S.length - l.length : Nat) : Int) + (i : Int) := by omega
  rw [hcs] at hix
  have hc256 : c.toNat < 256 := c.toNat_lt
  have w1 := wrap_i64 (n := (i : Int) + 1) ⟨by omega, by omega⟩
  have w7 := wrap_i64 (n := 7 * (i : Int)) ⟨by omega, by omega⟩
  have cast1 : ((i + 1 : Nat) : Int) = (i : Int) + 1 := by omega
  rw [hdr]
  unfold decF
  rw [if_neg z1, if_pos d]
  unfold PRi
  simp only
  clear hx hdr hxS
  have hi8 : i ≤ 8 ∨ (i = 9 ∧ c.toNat % 128 ≤ 1) := by omega
  have htm : (c.toNat : Int).tmod 128 = ((c.toNat % 128 : Nat) : Int) := by rw [Int.tmod_eq_emod_of_nonneg (by omega)]; omega
  have cv := conv_u8_u64 (c.toNat % 128) (by omega)
  have hsh := shl_at (c.toNat % 128) i (by omega) hi8
  have hlt : c.toNat % 128 * 128 ^ i < 18446744073709551616 ∧ u + c.toNat % 128 * 128 ^ i < 18446744073709551616 := by
    rcases hi8 with h | ⟨h, h2⟩
    · have h1 : 128 ^ i ≤ 128 ^ 8 := Nat.pow_le_pow_right (by decide) h
      have e : 128 ^ 8 = 72057594037927936 := by decide
      have : c.toNat % 128 * 128 ^ i ≤ 127 * 72057594037927936 := Nat.mul_le_mul (by omega) (by omega)
      omega
    · subst h
      have e : 128 ^ 9 = 9223372036854775808 := by decide
      rw [e] at hu ⊢
      omega
  have hor := or_at u (c.toNat % 128) i hu hi9 hlt.1 hlt.2
  have hnx := sum_lt u (c.toNat % 128) i hu (by omega)
  have hlt2 := hlt.2
  have hln : S.length - (l.drop (i + 1)).length = (S.length - l.length) + i + 1 := by rw [List.length_drop]; omega
  generalize u + c.toNat % 128 * 128 ^ i = v at *
  generalize c.toNat % 128 * 128 ^ i = y at *
  generalize hn : c.toNat = n at *
  have dp : (n : Int) < 128 := by omega
  have wa1 := wrap_i64 (n := ((S.length - l.length : Nat) : Int) + (i : Int) + 1) ⟨by omega, by omega⟩
  have hsr : shiftP .shr .u64 (v : Int) 1 = some (.int .u64 ((v / 2 : Nat) : Int)) := shr_nat (by decide) (by decide)
  have hc1 := conv_u64_i ((v / 2 : Nat) : Int)
  rw [wrap_i64 ⟨by omega, by omega⟩] at hc1
  have hm : (v : Int).tmod 2 = 1 := by rw [Int.tmod_eq_emod_of_nonneg (by omega)]; omega
  have wn := wrap_i64 (n := -1 - ((v / 2 : Nat) : Int)) ⟨by omega, by omega⟩
  unfold RdR at *
  rw [hln]
  have hcs2 : (((S.length - l.length) + i + 1 : Nat) : Int) = ((S.length - l.length : Nat) : Int) + (i : Int) + 1 := by omega
  rw [hcs2]
  unfold unzz
  rw [if_pos m]
  by_cases g : (i : Int) > 0
  · have g0p : ((n : Int) == 0) = false := by rw [beq_eq_false_iff_ne]; omega
    by_cases g9 : i = 9
    · have g9p : ((i : Int) == 9) = true := by rw [g9]; rfl
      have g1 : ¬ (n : Int) > 1 := by omega
      obtain ⟨ev, eo, so, co, ⟨hev, hco⟩, R⟩ := RULES CC; rw [← hev]
      simp only [fpart, part', Tryd.f64, Option.getD]
      simp (maxSteps := 5000000) only [SA, SB, SD, R, guardAt, binP, intP, indexAddrP, elemsOf, readCells, lenP, lenAt, resultsP, resultP, oneOr, reduceCtorEq, reduceIte, Nat.reduceEqDiff, Nat.reduceAdd, Nat.zero_add, Nat.reduceMul, Nat.reduceLT, Nat.reduceLeDiff, Int.reduceLT, Int.reduceNeg, Int.reduceLE, appendP, appendAt, letGo, setLoc, locVal, Int.reduceToNat, boxCells, und, TG, SE, unP, htr, hb, hset, hss, loadR, loadP, storeR, storeK, storeCellsP, laid, lay, nchP, callAl, extP, max60, List.getElem?_cons_zero, List.getElem?_cons_succ, Option.map_some, List.set_cons_zero, List.set_cons_succ, List.take_succ_cons, List.take_zero, List.drop_nil, List.filter_nil, List.cons_append, Nat.le_refl, Int.reduceBEq, Int.reduceBNe, Bool.not_true, Bool.not_false, h0, h3, h4, h10, hlen, wat, Int.reduceEq, hge, hix, htm, cv, w1, w7, hsh, hor, g, g0p, g9p, g1, dp, wa1, hsr, hc1, hm, wn, Int.reduceBEq]
      exact ⟨_, rfl, by simp (maxSteps := 5000000) only [SA, SB, SD, R, guardAt, binP, intP, indexAddrP, elemsOf, readCells, lenP, lenAt, resultsP, resultP, oneOr, reduceCtorEq, reduceIte, Nat.reduceEqDiff, Nat.reduceAdd, Nat.zero_add, Nat.reduceMul, Nat.reduceLT, Nat.reduceLeDiff, Int.reduceLT, Int.reduceNeg, Int.reduceLE, appendP, appendAt, letGo, setLoc, locVal, Int.reduceToNat, boxCells, und]⟩
    · have g9p : ((i : Int) == 9) = false := by rw [beq_eq_false_iff_ne]; omega
      obtain ⟨ev, eo, so, co, ⟨hev, hco⟩, R⟩ := RULES CC; rw [← hev]
      simp only [fpart, part', Tryd.f64, Option.getD]
      simp (maxSteps := 5000000) only [SA, SB, SD, R, guardAt, binP, intP, indexAddrP, elemsOf, readCells, lenP, lenAt, resultsP, resultP, oneOr, reduceCtorEq, reduceIte, Nat.reduceEqDiff, Nat.reduceAdd, Nat.zero_add, Nat.reduceMul, Nat.reduceLT, Nat.reduceLeDiff, Int.reduceLT, Int.reduceNeg, Int.reduceLE, appendP, appendAt, letGo, setLoc, locVal, Int.reduceToNat, boxCells, und, TG, SE, unP, htr, hb, hset, hss, loadR, loadP, storeR, storeK, storeCellsP, laid, lay, nchP, callAl, extP, max60, List.getElem?_cons_zero, List.getElem?_cons_succ, Option.map_some, List.set_cons_zero, List.set_cons_succ, List.take_succ_cons, List.take_zero, List.drop_nil, List.filter_nil, List.cons_append, Nat.le_refl, Int.reduceBEq, Int.reduceBNe, Bool.not_true, Bool.not_false, h0, h3, h4, h10, hlen, wat, Int.reduceEq, hge, hix, htm, cv, w1, w7, hsh, hor, g, g0p, g9p, dp, wa1, hsr, hc1, hm, wn, Int.reduceBEq]
      exact ⟨_, rfl, by simp (maxSteps := 5000000) only [SA, SB, SD, R, guardAt, binP, intP, indexAddrP, elemsOf, readCells, lenP, lenAt, resultsP, resultP, oneOr, reduceCtorEq, reduceIte, Nat.reduceEqDiff, Nat.reduceAdd, Nat.zero_add, Nat.reduceMul, Nat.reduceLT, Nat.reduceLeDiff, Int.reduceLT, Int.reduceNeg, Int.reduceLE, appendP, appendAt, letGo, setLoc, locVal, Int.reduceToNat, boxCells, und]⟩
  · have g9p : ((i : Int) == 9) = false := by rw [beq_eq_false_iff_ne]; omega
    obtain ⟨ev, eo, so, co, ⟨hev, hco⟩, R⟩ := RULES CC; rw [← hev]
    simp only [fpart, part', Tryd.f64, Option.getD]
    simp (maxSteps := 5000000) only [SA, SB, SD, R, guardAt, binP, intP, indexAddrP, elemsOf, readCells, lenP, lenAt, resultsP, resultP, oneOr, reduceCtorEq, reduceIte, Nat.reduceEqDiff, Nat.reduceAdd, Nat.zero_add, Nat.reduceMul, Nat.reduceLT, Nat.reduceLeDiff, Int.reduceLT, Int.reduceNeg, Int.reduceLE, appendP, appendAt, letGo, setLoc, locVal, Int.reduceToNat, boxCells, und, TG, SE, unP, htr, hb, hset, hss, loadR, loadP, storeR, storeK, storeCellsP, laid, lay, nchP, callAl, extP, max60, List.getElem?_cons_zero, List.getElem?_cons_succ, Option.map_some, List.set_cons_zero, List.set_cons_succ, List.take_succ_cons, List.take_zero, List.drop_nil, List.filter_nil, List.cons_append, Nat.le_refl, Int.reduceBEq, Int.reduceBNe, Bool.not_true, Bool.not_false, h0, h3, h4, h10, hlen, wat, Int.reduceEq, hge, hix, htm, cv, w1, w7, hsh, hor, g, g9p, dp, wa1, hsr, hc1, hm, wn, Int.reduceBEq]
    exact ⟨_, rfl, by simp (maxSteps := 5000000) only [SA, SB, SD, R, guardAt, binP, intP, indexAddrP, elemsOf, readCells, lenP, lenAt, resultsP, resultP, oneOr, reduceCtorEq, reduceIte, Nat.reduceEqDiff, Nat.reduceAdd, Nat.zero_add, Nat.reduceMul, Nat.reduceLT, Nat.reduceLeDiff, Int.reduceLT, Int.reduceNeg, Int.reduceLE, appendP, appendAt, letGo, setLoc, locVal, Int.reduceToNat, boxCells, und]⟩
theorem ri_even (L : Code) (hL : L = fpart Tryd.f64 [1,1,1,0,1,0]) (bx : List PBox) (id : Nat) (S l : List UInt8) (hx : Sfx S l) (hb : bx[id]? = some (RdR S l 0)) (i u : Nat) (e : List PV) (hi9 : i ≤ 9) (hu : u < 128 ^ i) (h0 : getT e 0 = .bp id 0) (h3 : getT e 3 = .int .u64 (u : Int)) (h4 : getT e 4 = .int .i64 i) (hil : i < l.length) (z1 : ¬ ((0 < i ∧ (l[i]'hil).toNat = 0) ∨ (i = 9 ∧ 1 < (l[i]'hil).toNat))) (d : (l[i]'hil).toNat < 128) (m : (u + (l[i]'hil).toNat % 128 * 128 ^ i) % 2 = 0) : PRi bx id S l (decF (l.drop i) i u) (evL CC L ⟨e, bx⟩) := by
  rw [evL_at (fpart Tryd.f64 [1,1,1,0,1,0,0]) hL]
  have hlen := len_str S
  have hss : True := trivial
  have hset : True := trivial
  obtain ⟨tr, htr⟩ := RRs
  have h10 : (i : Int) < 10 := by omega
  obtain ⟨x1, x2, x3⟩ := hx
  have wat := wrap_i64 (n := ((S.length - l.length : Nat) : Int) + (i : Int)) ⟨by omega, by omega⟩
  have hge : ¬ (((S.length - l.length : Nat) : Int) + (i : Int)) ≥ (S.length : Int) := by omega
  have hx : l[i]? = some (l[i]'(by omega)) := by simp
  have hdr : l.drop i = (l[i]'(by omega)) :: l.drop (i + 1) := List.drop_eq_getElem_cons (by omega)
  generalize l[i]'(by omega) = c at *
  have hxS : S[(S.length - l.length) + i]? = some c := by rw [← hx]; rw [← List.getElem?_drop, x1]
  have hix := ix_str S ((S.length - l.length) + i) c hxS
  have hcs : (((S.length - l.length) + i : Nat) : Int) = ((S.length - l.length : Nat) : Int) + (i : Int) := by omega
  rw [hcs] at hix
  have hc256 : c.toNat < 256 := c.toNat_lt
  have w1 := wrap_i64 (n := (i : Int) + 1) ⟨by omega, by omega⟩
  have w7 := wrap_i64 (n := 7 * (i : Int)) ⟨by omega, by omega⟩
  have cast1 : ((i + 1 : Nat) : Int) = (i : Int) + 1 := by omega
  rw [hdr]
  unfold decF
  rw [if_neg z1, if_pos d]
  unfold PRi
  simp only
  clear hx hdr hxS
  have hi8 : i ≤ 8 ∨ (i = 9 ∧ c.toNat % 128 ≤ 1) := by omega
  have htm : (c.toNat : Int).tmod 128 = ((c.toNat % 128 : Nat) : Int) := by rw [Int.tmod_eq_emod_of_nonneg (by omega)]; omega
  have cv := conv_u8_u64 (c.toNat % 128) (by omega)
  have hsh := shl_at (c.toNat % 128) i (by omega) hi8
  have hlt : c.toNat % 128 * 128 ^ i < 18446744073709551616 ∧ u + c.toNat % 128 * 128 ^ i < 18446744073709551616 := by
    rcases hi8 with h | ⟨h, h2⟩
    · have h1 : 128 ^ i ≤ 128 ^ 8 := Nat.pow_le_pow_right (by decide) h
      have e : 128 ^ 8 = 72057594037927936 := by decide
      have : c.toNat % 128 * 128 ^ i ≤ 127 * 72057594037927936 := Nat.mul_le_mul (by omega) (by omega)
      omega
    · subst h
      have e : 128 ^ 9 = 9223372036854775808 := by decide
      rw [e] at hu ⊢
      omega
  have hor := or_at u (c.toNat % 128) i hu hi9 hlt.1 hlt.2
  have hnx := sum_lt u (c.toNat % 128) i hu (by omega)
  have hlt2 := hlt.2
  have hln : S.length - (l.drop (i + 1)).length = (S.length - l.length) + i + 1 := by rw [List.length_drop]; omega
  generalize u + c.toNat % 128 * 128 ^ i = v at *
  generalize c.toNat % 128 * 128 ^ i = y at *
  generalize hn : c.toNat = n at *
  have dp : (n : Int) < 128 := by omega
  have wa1 := wrap_i64 (n := ((S.length - l.length : Nat) : Int) + (i : Int) + 1) ⟨by omega, by omega⟩
  have hsr : shiftP .shr .u64 (v : Int) 1 = some (.int .u64 ((v / 2 : Nat) : Int)) := shr_nat (by decide) (by decide)
  have hc1 := conv_u64_i ((v / 2 : Nat) : Int)
  rw [wrap_i64 ⟨by omega, by omega⟩] at hc1
  have hm : (v : Int).tmod 2 = 0 := by rw [Int.tmod_eq_emod_of_nonneg (by omega)]; omega
  have wn := wrap_i64 (n := -1 - ((v / 2 : Nat) : Int)) ⟨by omega, by omega⟩
  unfold RdR at *
  rw [hln]
  have hcs2 : (((S.length - l.length) + i + 1 : Nat) : Int) = ((S.length - l.length : Nat) : Int) + (i : Int) + 1 := by omega
  rw [hcs2]
  unfold unzz
  rw [if_neg (by omega)]
  by_cases g : (i : Int) > 0
  · have g0p : ((n : Int) == 0) = false := by rw [beq_eq_false_iff_ne]; omega
    by_cases g9 : i = 9
    · have g9p : ((i : Int) == 9) = true := by rw [g9]; rfl
      have g1 : ¬ (n : Int) > 1 := by omega
      obtain ⟨ev, eo, so, co, ⟨hev, hco⟩, R⟩ := RULES CC; rw [← hev]
      simp only [fpart, part', Tryd.f64, Option.getD]
      simp (maxSteps := 5000000) only [SA, SB, SD, R, guardAt, binP, intP, indexAddrP, elemsOf, readCells, lenP, lenAt, resultsP, resultP, oneOr, reduceCtorEq, reduceIte, Nat.reduceEqDiff, Nat.reduceAdd, Nat.zero_add, Nat.reduceMul, Nat.reduceLT, Nat.reduceLeDiff, Int.reduceLT, Int.reduceNeg, Int.reduceLE, appendP, appendAt, letGo, setLoc, locVal, Int.reduceToNat, boxCells, und, TG, SE, unP, htr, hb, hset, hss, loadR, loadP, storeR, storeK, storeCellsP, laid, lay, nchP, callAl, extP, max60, List.getElem?_cons_zero, List.getElem?_cons_succ, Option.map_some, List.set_cons_zero, List.set_cons_succ, List.take_succ_cons, List.take_zero, List.drop_nil, List.filter_nil, List.cons_append, Nat.le_refl, Int.reduceBEq, Int.reduceBNe, Bool.not_true, Bool.not_false, h0, h3, h4, h10, hlen, wat, Int.reduceEq, hge, hix, htm, cv, w1, w7, hsh, hor, g, g0p, g9p, g1, dp, wa1, hsr, hc1, hm, wn, Int.reduceBEq]
      exact ⟨_, rfl, by simp (maxSteps := 5000000) only [SA, SB, SD, R, guardAt, binP, intP, indexAddrP, elemsOf, readCells, lenP, lenAt, resultsP, resultP, oneOr, reduceCtorEq, reduceIte, Nat.reduceEqDiff, Nat.reduceAdd, Nat.zero_add, Nat.reduceMul, Nat.reduceLT, Nat.reduceLeDiff, Int.reduceLT, Int.reduceNeg, Int.reduceLE, appendP, appendAt, letGo, setLoc, locVal, Int.reduceToNat, boxCells, und]⟩
    · have g9p : ((i : Int) == 9) = false := by rw [beq_eq_false_iff_ne]; omega
      obtain ⟨ev, eo, so, co, ⟨hev, hco⟩, R⟩ := RULES CC; rw [← hev]
      simp only [fpart, part', Tryd.f64, Option.getD]
      simp (maxSteps := 5000000) only [SA, SB, SD, R, guardAt, binP, intP, indexAddrP, elemsOf, readCells, lenP, lenAt, resultsP, resultP, oneOr, reduceCtorEq, reduceIte, Nat.reduceEqDiff, Nat.reduceAdd, Nat.zero_add, Nat.reduceMul, Nat.reduceLT, Nat.reduceLeDiff, Int.reduceLT, Int.reduceNeg, Int.reduceLE, appendP, appendAt, letGo, setLoc, locVal, Int.reduceToNat, boxCells, und, TG, SE, unP, htr, hb, hset, hss, loadR, loadP, storeR, storeK, storeCellsP, laid, lay, nchP, callAl, extP, max60, List.getElem?_cons_zero, List.getElem?_cons_succ, Option.map_some, List.set_cons_zero, List.set_cons_succ, List.take_succ_cons, List.take_zero, List.drop_nil, List.filter_nil, List.cons_append, Nat.le_refl, Int.reduceBEq, Int.reduceBNe, Bool.not_true, Bool.not_false, h0, h3, h4, h10, hlen, wat, Int.reduceEq, hge, hix, htm, cv, w1, w7, hsh, hor, g, g0p, g9p, dp, wa1, hsr, hc1, hm, wn, Int.reduceBEq]
      exact ⟨_, rfl, by simp (maxSteps := 5000000) only [SA, SB, SD, R, guardAt, binP, intP, indexAddrP, elemsOf, readCells, lenP, lenAt, resultsP, resultP, oneOr, reduceCtorEq, reduceIte, Nat.reduceEqDiff, Nat.reduceAdd, Nat.zero_add, Nat.reduceMul, Nat.reduceLT, Nat.reduceLeDiff, Int.reduceLT, Int.reduceNeg, Int.reduceLE, appendP, appendAt, letGo, setLoc, locVal, Int.reduceToNat, boxCells, und]⟩
  · have g9p : ((i : Int) == 9) = false := by rw [beq_eq_false_iff_ne]; omega
    obtain ⟨ev, eo, so, co, ⟨hev, hco⟩, R⟩ := RULES CC; rw [← hev]
    simp only [fpart, part', Tryd.f64, Option.getD]
    simp (maxSteps := 5000000) only [SA, SB, SD, R, guardAt, binP, intP, indexAddrP, elemsOf, readCells, lenP, lenAt, resultsP, resultP, oneOr, reduceCtorEq, reduceIte, Nat.reduceEqDiff, Nat.reduceAdd, Nat.zero_add, Nat.reduceMul, Nat.reduceLT, Nat.reduceLeDiff, Int.reduceLT, Int.reduceNeg, Int.reduceLE, appendP, appendAt, letGo, setLoc, locVal, Int.reduceToNat, boxCells, und, TG, SE, unP, htr, hb, hset, hss, loadR, loadP, storeR, storeK, storeCellsP, laid, lay, nchP, callAl, extP, max60, List.getElem?_cons_zero, List.getElem?_cons_succ, Option.map_some, List.set_cons_zero, List.set_cons_succ, List.take_succ_cons, List.take_zero, List.drop_nil, List.filter_nil, List.cons_append, Nat.le_refl, Int.reduceBEq, Int.reduceBNe, Bool.not_true, Bool.not_false, h0, h3, h4, h10, hlen, wat, Int.reduceEq, hge, hix, htm, cv, w1, w7, hsh, hor, g, g9p, dp, wa1, hsr, hc1, hm, wn, Int.reduceBEq]
    exact ⟨_, rfl, by simp (maxSteps := 5000000) only [SA, SB, SD, R, guardAt, binP, intP, indexAddrP, elemsOf, readCells, lenP, lenAt, resultsP, resultP, oneOr, reduceCtorEq, reduceIte, Nat.reduceEqDiff, Nat.reduceAdd, Nat.zero_add, Nat.reduceMul, Nat.reduceLT, Nat.reduceLeDiff, Int.reduceLT, Int.reduceNeg, Int.reduceLE, appendP, appendAt, letGo, setLoc, locVal, Int.reduceToNat, boxCells, und]⟩
theorem ri_go (L : Code) (hL : L = fpart Tryd.f64 [1,1,1,0,1,0]) (bx : List PBox) (id : Nat) (S l : List UInt8) (hx : Sfx S l) (hb : bx[id]? = some (RdR S l 0)) (i u : Nat) (e : List PV) (hi9 : i ≤ 9) (hu : u < 128 ^ i) (h0 : getT e 0 = .bp id 0) (h3 : getT e 3 = .int .u64 (u : Int)) (h4 : getT e 4 = .int .i64 i) (hil : i < l.length) (z1 : ¬ ((0 < i ∧ (l[i]'hil).toNat = 0) ∨ (i = 9 ∧ 1 < (l[i]'hil).toNat))) (d : ¬ (l[i]'hil).toNat < 128) (key : ∀ e, getT e 0 = .bp id 0 → getT e 3 = .int .u64 ((u + (l[i]'hil).toNat % 128 * 128 ^ i : Nat) : Int) → getT e 4 = .int .i64 ((i + 1 : Nat) : Int) → PRi bx id S l (decF (l.drop (i + 1)) (i + 1) (u + (l[i]'hil).toNat % 128 * 128 ^ i)) (evL CC L ⟨e, bx⟩)) : PRi bx id S l (decF (l.drop i) i u) (evL CC L ⟨e, bx⟩) := by
  rw [evL_at (fpart Tryd.f64 [1,1,1,0,1,0,0]) hL]
  have hlen := len_str S
  have hss : True := trivial
  have hset : True := trivial
  obtain ⟨tr, htr⟩ := RRs
  have h10 : (i : Int) < 10 := by omega
  obtain ⟨x1, x2, x3⟩ := hx
  have wat := wrap_i64 (n := ((S.length - l.length : Nat) : Int) + (i : Int)) ⟨by omega, by omega⟩
  have hge : ¬ (((S.length - l.length : Nat) : Int) + (i : Int)) ≥ (S.length : Int) := by omega
  have hx : l[i]? = some (l[i]'(by omega)) := by simp
  have hdr : l.drop i = (l[i]'(by omega)) :: l.drop (i + 1) := List.drop_eq_getElem_cons (by omega)
  generalize l[i]'(by omega) = c at *
  have hxS : S[(S.length - l.length) + i]? = some c := by rw [← hx]; rw [← List.getElem?_drop, x1]
  have hix := ix_str S ((S.length - l.length) + i) c hxS
  have hcs : (((S.length - l.length) + i : Nat) : Int) = ((S.length - l.length : Nat) : Int) + (i : Int) := by omega
  rw [hcs] at hix
  have hc256 : c.toNat < 256 := c.toNat_lt
  have w1 := wrap_i64 (n := (i : Int) + 1) ⟨by omega, by omega⟩
  have w7 := wrap_i64 (n := 7 * (i : Int)) ⟨by omega, by omega⟩
  have cast1 : ((i + 1 : Nat) : Int) = (i : Int) + 1 := by omega
  rw [hdr]
  unfold decF
  rw [if_neg z1, if_neg d]
  rw [cast1] at key
  clear hx hdr hxS
  have hi8 : i ≤ 8 ∨ (i = 9 ∧ c.toNat % 128 ≤ 1) := by omega
  have htm : (c.toNat : Int).tmod 128 = ((c.toNat % 128 : Nat) : Int) := by rw [Int.tmod_eq_emod_of_nonneg (by omega)]; omega
  have cv := conv_u8_u64 (c.toNat % 128) (by omega)
  have hsh := shl_at (c.toNat % 128) i (by omega) hi8
  have hlt : c.toNat % 128 * 128 ^ i < 18446744073709551616 ∧ u + c.toNat % 128 * 128 ^ i < 18446744073709551616 := by
    rcases hi8 with h | ⟨h, h2⟩
    · have h1 : 128 ^ i ≤ 128 ^ 8 := Nat.pow_le_pow_right (by decide) h
      have e : 128 ^ 8 = 72057594037927936 := by decide
      have : c.toNat % 128 * 128 ^ i ≤ 127 * 72057594037927936 := Nat.mul_le_mul (by omega) (by omega)
      omega
    · subst h
      have e : 128 ^ 9 = 9223372036854775808 := by decide
      rw [e] at hu ⊢
      omega
  have hor := or_at u (c.toNat % 128) i hu hi9 hlt.1 hlt.2
  have hnx := sum_lt u (c.toNat % 128) i hu (by omega)
  have hlt2 := hlt.2
  generalize u + c.toNat % 128 * 128 ^ i = v at *
  generalize c.toNat % 128 * 128 ^ i = y at *
  generalize decF (l.drop (i + 1)) (i + 1) v = w at *
  generalize hn : c.toNat = n at *
  have dp : ¬ (n : Int) < 128 := by omega
  have hb := hb
  unfold RdR at hb
  by_cases g : (i : Int) > 0
  · have g0p : ((n : Int) == 0) = false := by rw [beq_eq_false_iff_ne]; omega
    by_cases g9 : i = 9
    · have g9p : ((i : Int) == 9) = true := by rw [g9]; rfl
      have g1 : ¬ (n : Int) > 1 := by omega
      obtain ⟨ev, eo, so, co, ⟨hev, hco⟩, R⟩ := RULES CC; rw [← hev]
      rw [← hev] at key
      simp only [fpart, part', Tryd.f64, Option.getD]
      simp (maxSteps := 5000000) only [SA, SB, SD, R, guardAt, binP, intP, indexAddrP, elemsOf, readCells, lenP, lenAt, resultsP, resultP, oneOr, reduceCtorEq, reduceIte, Nat.reduceEqDiff, Nat.reduceAdd, Nat.zero_add, Nat.reduceMul, Nat.reduceLT, Nat.reduceLeDiff, Int.reduceLT, Int.reduceNeg, Int.reduceLE, appendP, appendAt, letGo, setLoc, locVal, Int.reduceToNat, boxCells, und, TG, SE, unP, htr, hb, hset, hss, loadR, loadP, storeR, storeK, storeCellsP, laid, lay, nchP, callAl, extP, max60, List.getElem?_cons_zero, List.getElem?_cons_succ, Option.map_some, List.set_cons_zero, List.set_cons_succ, List.take_succ_cons, List.take_zero, List.drop_nil, List.filter_nil, List.cons_append, Nat.le_refl, Int.reduceBEq, Int.reduceBNe, Bool.not_true, Bool.not_false, h0, h3, h4, h10, hlen, wat, Int.reduceEq, hge, hix, htm, cv, w1, w7, hsh, hor, g, g0p, g9p, g1, dp]
      exact key _ (by simp (maxSteps := 5000000) only [SA, SB, SD, R, guardAt, binP, intP, indexAddrP, elemsOf, readCells, lenP, lenAt, resultsP, resultP, oneOr, reduceCtorEq, reduceIte, Nat.reduceEqDiff, Nat.reduceAdd, Nat.zero_add, Nat.reduceMul, Nat.reduceLT, Nat.reduceLeDiff, Int.reduceLT, Int.reduceNeg, Int.reduceLE, appendP, appendAt, letGo, setLoc, locVal, Int.reduceToNat, boxCells, und, h0]) (by simp (maxSteps := 5000000) only [SA, SB, SD, R, guardAt, binP, intP, indexAddrP, elemsOf, readCells, lenP, lenAt, resultsP, resultP, oneOr, reduceCtorEq, reduceIte, Nat.reduceEqDiff, Nat.reduceAdd, Nat.zero_add, Nat.reduceMul, Nat.reduceLT, Nat.reduceLeDiff, Int.reduceLT, Int.reduceNeg, Int.reduceLE, appendP, appendAt, letGo, setLoc, locVal, Int.reduceToNat, boxCells, und]) (by simp (maxSteps := 5000000) only [SA, SB, SD, R, guardAt, binP, intP, indexAddrP, elemsOf, readCells, lenP, lenAt, resultsP, resultP, oneOr, reduceCtorEq, reduceIte, Nat.reduceEqDiff, Nat.reduceAdd, Nat.zero_add, Nat.reduceMul, Nat.reduceLT, Nat.reduceLeDiff, Int.reduceLT, Int.reduceNeg, Int.reduceLE, appendP, appendAt, letGo, setLoc, locVal, Int.reduceToNat, boxCells, und])
    · have g9p : ((i : Int) == 9) = false := by rw [beq_eq_false_iff_ne]; omega
      obtain ⟨ev, eo, so, co, ⟨hev, hco⟩, R⟩ := RULES CC; rw [← hev]
      rw [← hev] at key
      simp only [fpart, part', Tryd.f64, Option.getD]
      simp (maxSteps := 5000000) only [SA, SB, SD, R, guardAt, binP, intP, indexAddrP, elemsOf, readCells, lenP, lenAt, resultsP, resultP, oneOr, reduceCtorEq, reduceIte, Nat.reduceEqDiff, Nat.reduceAdd, Nat.zero_add, Nat.reduceMul, Nat.reduceLT, Nat.reduceLeDiff, Int.reduceLT, Int.reduceNeg, Int.reduceLE, appendP, appendAt, letGo, setLoc, locVal, Int.reduceToNat, boxCells, und, TG, SE, unP, htr, hb, hset, hss, loadR, loadP, storeR, storeK, storeCellsP, laid, lay, nchP, callAl, extP, max60, List.getElem?_cons_zero, List.getElem?_cons_succ, Option.map_some, List.set_cons_zero, List.set_cons_succ, List.take_succ_cons, List.take_zero, List.drop_nil, List.filter_nil, List.cons_append, Nat.le_refl, Int.reduceBEq, Int.reduceBNe, Bool.not_true, Bool.not_false, h0, h3, h4, h10, hlen, wat, Int.reduceEq, hge, hix, htm, cv, w1, w7, hsh, hor, g, g0p, g9p, dp]
      exact key _ (by simp (maxSteps := 5000000) only [SA, SB, SD, R, guardAt, binP, intP, indexAddrP, elemsOf, readCells, lenP, lenAt, resultsP, resultP, oneOr, reduceCtorEq, reduceIte, Nat.reduceEqDiff, Nat.reduceAdd, Nat.zero_add, Nat.reduceMul, Nat.reduceLT, Nat.reduceLeDiff, Int.reduceLT, Int.reduceNeg, Int.reduceLE, appendP, appendAt, letGo, setLoc, locVal, Int.reduceToNat, boxCells, und, h0]) (by simp (maxSteps := 5000000) only [SA, SB, SD, R, guardAt, binP, intP, indexAddrP, elemsOf, readCells, lenP, lenAt, resultsP, resultP, oneOr, reduceCtorEq, reduceIte, Nat.reduceEqDiff, Nat.reduceAdd, Nat.zero_add, Nat.reduceMul, Nat.reduceLT, Nat.reduceLeDiff, Int.reduceLT, Int.reduceNeg, Int.reduceLE, appendP, appendAt, letGo, setLoc, locVal, Int.reduceToNat, boxCells, und]) (by simp (maxSteps := 5000000) only [SA, SB, SD, R, guardAt, binP, intP, indexAddrP, elemsOf, readCells, lenP, lenAt, resultsP, resultP, oneOr, reduceCtorEq, reduceIte, Nat.reduceEqDiff, Nat.reduceAdd, Nat.zero_add, Nat.reduceMul, Nat.reduceLT, Nat.reduceLeDiff, Int.reduceLT, Int.reduceNeg, Int.reduceLE, appendP, appendAt, letGo, setLoc, locVal, Int.reduceToNat, boxCells, und])
  · have g9p : ((i : Int) == 9) = false := by rw [beq_eq_false_iff_ne]; omega
    obtain ⟨ev, eo, so, co, ⟨hev, hco⟩, R⟩ := RULES CC; rw [← hev]
    rw [← hev] at key
    simp only [fpart, part', Tryd.f64, Option.getD]
    simp (maxSteps := 5000000) only [SA, SB, SD, R, guardAt, binP, intP, indexAddrP, elemsOf, readCells, lenP, lenAt, resultsP, resultP, oneOr, reduceCtorEq, reduceIte, Nat.reduceEqDiff, Nat.reduceAdd, Nat.zero_add, Nat.reduceMul, Nat.reduceLT, Nat.reduceLeDiff, Int.reduceLT, Int.reduceNeg, Int.reduceLE, appendP, appendAt, letGo, setLoc, locVal, Int.reduceToNat, boxCells, und, TG, SE, unP, htr, hb, hset, hss, loadR, loadP, storeR, storeK, storeCellsP, laid, lay, nchP, callAl, extP, max60, List.getElem?_cons_zero, List.getElem?_cons_succ, Option.map_some, List.set_cons_zero, List.set_cons_succ, List.take_succ_cons, List.take_zero, List.drop_nil, List.filter_nil, List.cons_append, Nat.le_refl, Int.reduceBEq, Int.reduceBNe, Bool.not_true, Bool.not_false, h0, h3, h4, h10, hlen, wat, Int.reduceEq, hge, hix, htm, cv, w1, w7, hsh, hor, g, g9p, dp]
    exact key _ (by simp (maxSteps := 5000000) only [SA, SB, SD, R, guardAt, binP, intP, indexAddrP, elemsOf, readCells, lenP, lenAt, resultsP, resultP, oneOr, reduceCtorEq, reduceIte, Nat.reduceEqDiff, Nat.reduceAdd, Nat.zero_add, Nat.reduceMul, Nat.reduceLT, Nat.reduceLeDiff, Int.reduceLT, Int.reduceNeg, Int.reduceLE, appendP, appendAt, letGo, setLoc, locVal, Int.reduceToNat, boxCells, und, h0]) (by simp (maxSteps := 5000000) only [SA, SB, SD, R, guardAt, binP, intP, indexAddrP, elemsOf, readCells, lenP, lenAt, resultsP, resultP, oneOr, reduceCtorEq, reduceIte, Nat.reduceEqDiff, Nat.reduceAdd, Nat.zero_add, Nat.reduceMul, Nat.reduceLT, Nat.reduceLeDiff, Int.reduceLT, Int.reduceNeg, Int.reduceLE, appendP, appendAt, letGo, setLoc, locVal, Int.reduceToNat, boxCells, und]) (by simp (maxSteps := 5000000) only [SA, SB, SD, R, guardAt, binP, intP, indexAddrP, elemsOf, readCells, lenP, lenAt, resultsP, resultP, oneOr, reduceCtorEq, reduceIte, Nat.reduceEqDiff, Nat.reduceAdd, Nat.zero_add, Nat.reduceMul, Nat.reduceLT, Nat.reduceLeDiff, Int.reduceLT, Int.reduceNeg, Int.reduceLE, appendP, appendAt, letGo, setLoc, locVal, Int.reduceToNat, boxCells, und])
theorem loop_R02_RInt (L : Code) (hL : L = fpart Tryd.f64 [1,1,1,0,1,0]) (bx : List PBox) (id : Nat) (S l : List UInt8) (hx : Sfx S l) (hb : bx[id]? = some (RdR S l 0)) : ∀ (k i u : Nat) (e : List PV), 10 - i < k → i ≤ 9 → u < 128 ^ i → getT e 0 = .bp id 0 → getT e 3 = .int .u64 (u : Int) → getT e 4 = .int .i64 i →
    PRi bx id S l (decF (l.drop i) i u) (evL CC L ⟨e, bx⟩) := by
  intro k
  induction k with
  | zero => intro i u e hk; omega
  | succ k ih =>
    intro i u e hk hi9 hu h0 h3 h4
    by_cases hil : i < l.length
    · by_cases z1 : (0 < i ∧ (l[i]'hil).toNat = 0) ∨ (i = 9 ∧ 1 < (l[i]'hil).toNat)
      · exact ri_bad L hL bx id S l hx hb i u e hi9 hu h0 h3 h4 hil z1
      · by_cases d : (l[i]'hil).toNat < 128
        · by_cases m : (u + (l[i]'hil).toNat % 128 * 128 ^ i) % 2 = 1
          · exact ri_odd L hL bx id S l hx hb i u e hi9 hu h0 h3 h4 hil z1 d m
          · exact ri_even L hL bx id S l hx hb i u e hi9 hu h0 h3 h4 hil z1 d (by omega)
        · exact ri_go L hL bx id S l hx hb i u e hi9 hu h0 h3 h4 hil z1 d (fun e g0 g3 g4 => ih (i + 1) _ e (by omega) (by omega) (sum_lt u _ i hu (by omega)) g0 g3 g4)
    · exact ri_end L hL bx id S l hx hb i u e hi9 hu h0 h3 h4 (by omega)
section
variable (bx : List PBox) (id : Nat) (S l : List UInt8) (e : Int)
theorem call_r_Int (hx : Sfx S l) (hb : bx[id]? = some (RdR S l e)) : callL CC 64 [.bp id 0] bx = some (.ret (.int .i64 (rdI l e).1), bx.set id (RdR S (rdI l e).2.1 (rdI l e).2.2)) := by
  rw [callL_enter (fn := Tryd.f64) (c := Tryd.f64.body.getD .skip) rfl rfl fat_R02_Reader_Int rfl ok_R02_Reader_Int (Nat.le_of_ble_eq_true rfl)]
  obtain ⟨tr, htr⟩ := RRs
  have her := op_r_Err bx id S l e hb
  have hss : True := trivial
  have hset : True := trivial
  have hsm := set_same hb
  unfold rdI
  by_cases e0 : e = 0
  · rw [if_neg (fun h => h e0)]
    subst e0
    have hloop := fun e => loop_R02_RInt _ rfl bx id S l hx hb 11 0 0 e (by omega) (by omega) (by decide)
    rw [List.drop_zero] at hloop
    generalize decF l 0 0 = v at *
    obtain ⟨ev, eo, so, co, ⟨hev, hco⟩, R⟩ := RULES CC; rw [← hev]
    rw [← hco] at her
    rw [← hev] at hloop
    simp only [fpart, part', Tryd.f64, Option.getD] at hloop ⊢
    simp (maxSteps := 5000000) only [SA, SB, SD, R, guardAt, binP, intP, indexAddrP, elemsOf, readCells, lenP, lenAt, resultsP, resultP, oneOr, reduceCtorEq, reduceIte, Nat.reduceEqDiff, Nat.reduceAdd, Nat.zero_add, Nat.reduceMul, Nat.reduceLT, Nat.reduceLeDiff, Int.reduceLT, Int.reduceNeg, Int.reduceLE, appendP, appendAt, letGo, setLoc, locVal, Int.reduceToNat, boxCells, und, TG, SE, unP, htr, hb, hset, hss, loadR, loadP, storeR, storeK, storeCellsP, laid, lay, nchP, callAl, extP, max60, List.getElem?_cons_zero, List.getElem?_cons_succ, Option.map_some, List.set_cons_zero, List.set_cons_succ, List.take_succ_cons, List.take_zero, List.drop_nil, List.filter_nil, List.cons_append, Nat.le_refl, Int.reduceBEq, Int.reduceBNe, Bool.not_true, Bool.not_false, her]
    generalize hE : ev _ _ = z
    have hP : PRi bx id S l v z := by
      rw [← hE]
      exact hloop _ (by simp (maxSteps := 5000000) only [SA, SB, SD, R, guardAt, binP, intP, indexAddrP, elemsOf, readCells, lenP, lenAt, resultsP, resultP, oneOr, reduceCtorEq, reduceIte, Nat.reduceEqDiff, Nat.reduceAdd, Nat.zero_add, Nat.reduceMul, Nat.reduceLT, Nat.reduceLeDiff, Int.reduceLT, Int.reduceNeg, Int.reduceLE, appendP, appendAt, letGo, setLoc, locVal, Int.reduceToNat, boxCells, und]) (by simp (maxSteps := 5000000) only [SA, SB, SD, R, guardAt, binP, intP, indexAddrP, elemsOf, readCells, lenP, lenAt, resultsP, resultP, oneOr, reduceCtorEq, reduceIte, Nat.reduceEqDiff, Nat.reduceAdd, Nat.zero_add, Nat.reduceMul, Nat.reduceLT, Nat.reduceLeDiff, Int.reduceLT, Int.reduceNeg, Int.reduceLE, appendP, appendAt, letGo, setLoc, locVal, Int.reduceToNat, boxCells, und]; rfl) (by simp (maxSteps := 5000000) only [SA, SB, SD, R, guardAt, binP, intP, indexAddrP, elemsOf, readCells, lenP, lenAt, resultsP, resultP, oneOr, reduceCtorEq, reduceIte, Nat.reduceEqDiff, Nat.reduceAdd, Nat.zero_add, Nat.reduceMul, Nat.reduceLT, Nat.reduceLeDiff, Int.reduceLT, Int.reduceNeg, Int.reduceLE, appendP, appendAt, letGo, setLoc, locVal, Int.reduceToNat, boxCells, und]; rfl)
    match v, hP with
    | .inl (u, k), hP =>
      obtain ⟨e', he, g2⟩ := hP
      subst he
      simp (maxSteps := 5000000) only [SA, SB, SD, R, guardAt, binP, intP, indexAddrP, elemsOf, readCells, lenP, lenAt, resultsP, resultP, oneOr, reduceCtorEq, reduceIte, Nat.reduceEqDiff, Nat.reduceAdd, Nat.zero_add, Nat.reduceMul, Nat.reduceLT, Nat.reduceLeDiff, Int.reduceLT, Int.reduceNeg, Int.reduceLE, appendP, appendAt, letGo, setLoc, locVal, Int.reduceToNat, boxCells, und, TG, SE, g2]
    | .inr c, hP =>
      obtain ⟨e', he, g2⟩ := hP
      subst he
      simp (maxSteps := 5000000) only [SA, SB, SD, R, guardAt, binP, intP, indexAddrP, elemsOf, readCells, lenP, lenAt, resultsP, resultP, oneOr, reduceCtorEq, reduceIte, Nat.reduceEqDiff, Nat.reduceAdd, Nat.zero_add, Nat.reduceMul, Nat.reduceLT, Nat.reduceLeDiff, Int.reduceLT, Int.reduceNeg, Int.reduceLE, appendP, appendAt, letGo, setLoc, locVal, Int.reduceToNat, boxCells, und, TG, SE, g2]
  · have e0p : (e != 0) = true := by simpa using e0
    rw [if_pos e0]
    simp only
    rw [hsm]
    unfold RdR at *
    obtain ⟨ev, eo, so, co, ⟨hev, hco⟩, R⟩ := RULES CC; rw [← hev]
    rw [← hco] at her
    simp only [fpart, part', Tryd.f64, Option.getD]
    simp (maxSteps := 5000000) only [SA, SB, SD, R, guardAt, binP, intP, indexAddrP, elemsOf, readCells, lenP, lenAt, resultsP, resultP, oneOr, reduceCtorEq, reduceIte, Nat.reduceEqDiff, Nat.reduceAdd, Nat.zero_add, Nat.reduceMul, Nat.reduceLT, Nat.reduceLeDiff, Int.reduceLT, Int.reduceNeg, Int.reduceLE, appendP, appendAt, letGo, setLoc, locVal, Int.reduceToNat, boxCells, und, TG, SE, unP, htr, hb, hset, hss, loadR, loadP, storeR, storeK, storeCellsP, laid, lay, nchP, callAl, extP, max60, List.getElem?_cons_zero, List.getElem?_cons_succ, Option.map_some, List.set_cons_zero, List.set_cons_succ, List.take_succ_cons, List.take_zero, List.drop_nil, List.filter_nil, List.cons_append, Nat.le_refl, Int.reduceBEq, Int.reduceBNe, Bool.not_true, Bool.not_false, her, e0p]
theorem op_r_Int (hx : Sfx S l) (hb : bx[id]? = some (RdR S l e)) : callOp CC (callL CC) 64 [.bp id 0] bx = some (.ret (.int .i64 (rdI l e).1), bx.set id (RdR S (rdI l e).2.1 (rdI l e).2.2)) := callOp_imp rfl (call_r_Int bx id S l e hx hb) (by rw [List.length_set]; exact Nat.le_refl _)
theorem call_r_Count (hx : Sfx S l) (hb : bx[id]? = some (RdR S l e)) : callL CC 79 [.bp id 0, .int .i64 60] bx = some (.ret (.int .i64 (rdC l e).1), bx.set id (RdR S (rdC l e).2.1 (rdC l e).2.2)) := by
  rw [callL_enter (fn := Tryd.f79) (c := Tryd.f79.body.getD .skip) rfl rfl fat_R02_Reader_Count rfl ok_R02_Reader_Count (Nat.le_of_ble_eq_true rfl)]
  obtain ⟨tr, htr⟩ := RRs
  have hi := op_r_Int bx id S l e hx hb
  have hss : ∀ X Y, (bx.set id X).set id Y = bx.set id Y := fun X Y => List.set_set ..
  have hset : ∀ X, (bx.set id X)[id]? = some X := fun X => List.getElem?_set_self (id_lt hb)
  have m0 : ¬ ((60 : Int) < 0) := by decide
  unfold rdC
  generalize rdI l e = r at *
  obtain ⟨n, l1, e1⟩ := r
  simp only at *
  have her := op_r_Err (bx.set id (RdR S l1 e1)) id S l1 e1 (hset _)
  by_cases e0 : e1 = 0
  · have e0p : (e1 != 0) = false := by simp [e0]
    rw [if_neg (fun h => h e0)]
    by_cases n0 : n < 0
    · rw [if_pos n0]
      unfold RdR at *
      obtain ⟨ev, eo, so, co, ⟨hev, hco⟩, R⟩ := RULES CC; rw [← hev]
      rw [← hco] at her hi
      simp only [fpart, part', Tryd.f79, Option.getD]
      simp (maxSteps := 5000000) only [SA, SB, SD, R, guardAt, binP, intP, indexAddrP, elemsOf, readCells, lenP, lenAt, resultsP, resultP, oneOr, reduceCtorEq, reduceIte, Nat.reduceEqDiff, Nat.reduceAdd, Nat.zero_add, Nat.reduceMul, Nat.reduceLT, Nat.reduceLeDiff, Int.reduceLT, Int.reduceNeg, Int.reduceLE, appendP, appendAt, letGo, setLoc, locVal, Int.reduceToNat, boxCells, und, TG, SE, unP, htr, hb, hset, hss, loadR, loadP, storeR, storeK, storeCellsP, laid, lay, nchP, callAl, extP, max60, List.getElem?_cons_zero, List.getElem?_cons_succ, Option.map_some, List.set_cons_zero, List.set_cons_succ, List.take_succ_cons, List.take_zero, List.drop_nil, List.filter_nil, List.cons_append, Nat.le_refl, Int.reduceBEq, Int.reduceBNe, Bool.not_true, Bool.not_false, her, hi, e0p, n0, m0]
    · rw [if_neg n0]
      by_cases n6 : n > 60
      · rw [if_pos n6]
        unfold RdR at *
        obtain ⟨ev, eo, so, co, ⟨hev, hco⟩, R⟩ := RULES CC; rw [← hev]
        rw [← hco] at her hi
        simp only [fpart, part', Tryd.f79, Option.getD]
        simp (maxSteps := 5000000) only [SA, SB, SD, R, guardAt, binP, intP, indexAddrP, elemsOf, readCells, lenP, lenAt, resultsP, resultP, oneOr, reduceCtorEq, reduceIte, Nat.reduceEqDiff, Nat.reduceAdd, Nat.zero_add, Nat.reduceMul, Nat.reduceLT, Nat.reduceLeDiff, Int.reduceLT, Int.reduceNeg, Int.reduceLE, appendP, appendAt, letGo, setLoc, locVal, Int.reduceToNat, boxCells, und, TG, SE, unP, htr, hb, hset, hss, loadR, loadP, storeR, storeK, storeCellsP, laid, lay, nchP, callAl, extP, max60, List.getElem?_cons_zero, List.getElem?_cons_succ, Option.map_some, List.set_cons_zero, List.set_cons_succ, List.take_succ_cons, List.take_zero, List.drop_nil, List.filter_nil, List.cons_append, Nat.le_refl, Int.reduceBEq, Int.reduceBNe, Bool.not_true, Bool.not_false, her, hi, e0p, n0, n6, m0]
      · rw [if_neg n6]
        unfold RdR at *
        obtain ⟨ev, eo, so, co, ⟨hev, hco⟩, R⟩ := RULES CC; rw [← hev]
        rw [← hco] at her hi
        simp only [fpart, part', Tryd.f79, Option.getD]
        simp (maxSteps := 5000000) only [SA, SB, SD, R, guardAt, binP, intP, indexAddrP, elemsOf, readCells, lenP, lenAt, resultsP, resultP, oneOr, reduceCtorEq, reduceIte, Nat.reduceEqDiff, Nat.reduceAdd, Nat.zero_add, Nat.reduceMul, Nat.reduceLT, Nat.reduceLeDiff, Int.reduceLT, Int.reduceNeg, Int.reduceLE, appendP, appendAt, letGo, setLoc, locVal, Int.reduceToNat, boxCells, und, TG, SE, unP, htr, hb, hset, hss, loadR, loadP, storeR, storeK, storeCellsP, laid, lay, nchP, callAl, extP, max60, List.getElem?_cons_zero, List.getElem?_cons_succ, Option.map_some, List.set_cons_zero, List.set_cons_succ, List.take_succ_cons, List.take_zero, List.drop_nil, List.filter_nil, List.cons_append, Nat.le_refl, Int.reduceBEq, Int.reduceBNe, Bool.not_true, Bool.not_false, her, hi, e0p, n0, n6, m0]
  · have e0p : (e1 != 0) = true := by simpa using e0
    rw [if_pos e0]
    unfold RdR at *
    obtain ⟨ev, eo, so, co, ⟨hev, hco⟩, R⟩ := RULES CC; rw [← hev]
    rw [← hco] at her hi
    simp only [fpart, part', Tryd.f79, Option.getD]
    simp (maxSteps := 5000000) only [SA, SB, SD, R, guardAt, binP, intP, indexAddrP, elemsOf, readCells, lenP, lenAt, resultsP, resultP, oneOr, reduceCtorEq, reduceIte, Nat.reduceEqDiff, Nat.reduceAdd, Nat.zero_add, Nat.reduceMul, Nat.reduceLT, Nat.reduceLeDiff, Int.reduceLT, Int.reduceNeg, Int.reduceLE, appendP, appendAt, letGo, setLoc, locVal, Int.reduceToNat, boxCells, und, TG, SE, unP, htr, hb, hset, hss, loadR, loadP, storeR, storeK, storeCellsP, laid, lay, nchP, callAl, extP, max60, List.getElem?_cons_zero, List.getElem?_cons_succ, Option.map_some, List.set_cons_zero, List.set_cons_succ, List.take_succ_cons, List.take_zero, List.drop_nil, List.filter_nil, List.cons_append, Nat.le_refl, Int.reduceBEq, Int.reduceBNe, Bool.not_true, Bool.not_false, her, hi, e0p, m0]
theorem op_r_Count (hx : Sfx S l) (hb : bx[id]? = some (RdR S l e)) : callOp CC (callL CC) 79 [.bp id 0, .int .i64 60] bx = some (.ret (.int .i64 (rdC l e).1), bx.set id (RdR S (rdC l e).2.1 (rdC l e).2.2)) := callOp_imp rfl (call_r_Count bx id S l e hx hb) (by rw [List.length_set]; exact Nat.le_refl _)
theorem call_r_Text (hx : Sfx S l) (hb : bx[id]? = some (RdR S l e)) : callL CC 65 [.bp id 0, .int .i64 60] bx = some (.ret (.str (rdT l e).1), bx.set id (RdR S (rdT l e).2.1 (rdT l e).2.2)) := by
  rw [callL_enter (fn := Tryd.f65) (c := Tryd.f65.body.getD .skip) rfl rfl fat_R02_Reader_Text rfl ok_R02_Reader_Text (Nat.le_of_ble_eq_true rfl)]
  obtain ⟨tr, htr⟩ := RRs
  have hi := op_r_Count bx id S l e hx hb
  have hss : ∀ X Y, (bx.set id X).set id Y = bx.set id Y := fun X Y => List.set_set ..
  have hset : ∀ X, (bx.set id X)[id]? = some X := fun X => List.getElem?_set_self (id_lt hb)
  have hok := rdC_ok (l := l) (e := e)
  have hsx := hx.rdC e
  unfold rdT
  generalize rdC l e = r at *
  obtain ⟨n, l1, e1⟩ := r
  simp only at *
  obtain ⟨x1, x2, x3⟩ := hsx
  have her := op_r_Err (bx.set id (RdR S l1 e1)) id S l1 e1 (hset _)
  have hlen := len_str S
  by_cases e0 : e1 = 0
  · have e0p : (e1 != 0) = false := by simp [e0]
    rw [if_neg (fun h => h e0)]
    obtain ⟨n1, n2⟩ := hok e0
    have wl := wrap_i64 (n := (S.length : Int) - ((S.length - l1.length : Nat) : Int)) ⟨by omega, by omega⟩
    have el : (S.length : Int) - ((S.length - l1.length : Nat) : Int) = (l1.length : Int) := by omega
    rw [el] at wl
    by_cases n6 : n > (l1.length : Int)
    · rw [if_pos n6]
      unfold RdR at *
      obtain ⟨ev, eo, so, co, ⟨hev, hco⟩, R⟩ := RULES CC; rw [← hev]
      rw [← hco] at her hi
      simp only [fpart, part', Tryd.f65, Option.getD]
      simp (maxSteps := 5000000) only [SA, SB, SD, R, guardAt, binP, intP, indexAddrP, elemsOf, readCells, lenP, lenAt, resultsP, resultP, oneOr, reduceCtorEq, reduceIte, Nat.reduceEqDiff, Nat.reduceAdd, Nat.zero_add, Nat.reduceMul, Nat.reduceLT, Nat.reduceLeDiff, Int.reduceLT, Int.reduceNeg, Int.reduceLE, appendP, appendAt, letGo, setLoc, locVal, Int.reduceToNat, boxCells, und, TG, SE, unP, htr, hb, hset, hss, loadR, loadP, storeR, storeK, storeCellsP, laid, lay, nchP, callAl, extP, max60, List.getElem?_cons_zero, List.getElem?_cons_succ, Option.map_some, List.set_cons_zero, List.set_cons_succ, List.take_succ_cons, List.take_zero, List.drop_nil, List.filter_nil, List.cons_append, Nat.le_refl, Int.reduceBEq, Int.reduceBNe, Bool.not_true, Bool.not_false, her, hi, e0p, hlen, el, wl, n6]
    · rw [if_neg n6]
      have wa := wrap_i64 (n := ((S.length - l1.length : Nat) : Int) + n) ⟨by omega, by omega⟩
      have hs1 := sl_str S ((S.length - l1.length : Nat) : Int) (((S.length - l1.length : Nat) : Int) + n) (by omega) (by omega) (by omega)
      have et : (S.take (((S.length - l1.length : Nat) : Int) + n).toNat).drop ((S.length - l1.length : Nat) : Int).toNat = l1.take n.toNat := by
        have e1 : (((S.length - l1.length : Nat) : Int) + n).toNat = (S.length - l1.length) + n.toNat := by omega
        rw [e1, Int.toNat_natCast, List.drop_take, x1]
        congr 1
        omega
      rw [et] at hs1
      have ed : ((S.length - (l1.drop n.toNat).length : Nat) : Int) = ((S.length - l1.length : Nat) : Int) + n := by rw [List.length_drop]; omega
      subst e0
      unfold RdR at *
      rw [ed]
      obtain ⟨ev, eo, so, co, ⟨hev, hco⟩, R⟩ := RULES CC; rw [← hev]
      rw [← hco] at her hi
      simp only [fpart, part', Tryd.f65, Option.getD]
      simp (maxSteps := 5000000) only [SA, SB, SD, R, guardAt, binP, intP, indexAddrP, elemsOf, readCells, lenP, lenAt, resultsP, resultP, oneOr, reduceCtorEq, reduceIte, Nat.reduceEqDiff, Nat.reduceAdd, Nat.zero_add, Nat.reduceMul, Nat.reduceLT, Nat.reduceLeDiff, Int.reduceLT, Int.reduceNeg, Int.reduceLE, appendP, appendAt, letGo, setLoc, locVal, Int.reduceToNat, boxCells, und, TG, SE, unP, htr, hb, hset, hss, loadR, loadP, storeR, storeK, storeCellsP, laid, lay, nchP, callAl, extP, max60, List.getElem?_cons_zero, List.getElem?_cons_succ, Option.map_some, List.set_cons_zero, List.set_cons_succ, List.take_succ_cons, List.take_zero, List.drop_nil, List.filter_nil, List.cons_append, Nat.le_refl, Int.reduceBEq, Int.reduceBNe, Bool.not_true, Bool.not_false, her, hi, hlen, el, wl, n6, wa, hs1]
  · have e0p : (e1 != 0) = true := by simpa using e0
    rw [if_pos e0]
    unfold RdR at *
    clear hok
    obtain ⟨ev, eo, so, co, ⟨hev, hco⟩, R⟩ := RULES CC; rw [← hev]
    rw [← hco] at her hi
    simp only [fpart, part', Tryd.f65, Option.getD]
    simp (maxSteps := 5000000) only [SA, SB, SD, R, guardAt, binP, intP, indexAddrP, elemsOf, readCells, lenP, lenAt, resultsP, resultP, oneOr, reduceCtorEq, reduceIte, Nat.reduceEqDiff, Nat.reduceAdd, Nat.zero_add, Nat.reduceMul, Nat.reduceLT, Nat.reduceLeDiff, Int.reduceLT, Int.reduceNeg, Int.reduceLE, appendP, appendAt, letGo, setLoc, locVal, Int.reduceToNat, boxCells, und, TG, SE, unP, htr, hb, hset, hss, loadR, loadP, storeR, storeK, storeCellsP, laid, lay, nchP, callAl, extP, max60, List.getElem?_cons_zero, List.getElem?_cons_succ, Option.map_some, List.set_cons_zero, List.set_cons_succ, List.take_succ_cons, List.take_zero, List.drop_nil, List.filter_nil, List.cons_append, Nat.le_refl, Int.reduceBEq, Int.reduceBNe, Bool.not_true, Bool.not_false, her, hi, e0p]
theorem op_r_Text (hx : Sfx S l) (hb : bx[id]? = some (RdR S l e)) : callOp CC (callL CC) 65 [.bp id 0, .int .i64 60] bx = some (.ret (.str (rdT l e).1), bx.set id (RdR S (rdT l e).2.1 (rdT l e).2.2)) := callOp_imp rfl (call_r_Text bx id S l e hx hb) (by rw [List.length_set]; exact Nat.le_refl _)
end
theorem ok_value_Put : fnOK CC Tryd.f27 (Tryd.f27.body.getD .skip) = true := by kernel_rfl
theorem fat_value_Put : CC.P.funcs[27]? = some Tryd.f27 := by kernel_rfl
theorem ok_R20_Put : fnOK CC Tryd.f28 (Tryd.f28.body.getD .skip) = true := by kernel_rfl
theorem fat_R20_Put : CC.P.funcs[28]? = some Tryd.f28 := by kernel_rfl
theorem ok_wire_New : fnOK CC Tryd.f30 (Tryd.f30.body.getD .skip) = true := by kernel_rfl
theorem fat_wire_New : CC.P.funcs[30]? = some Tryd.f30 := by kernel_rfl
theorem ok_R02_New : fnOK CC Tryd.f44 (Tryd.f44.body.getD .skip) = true := by kernel_rfl
theorem fat_R02_New : CC.P.funcs[44]? = some Tryd.f44 := by kernel_rfl
theorem ok_value_Take : fnOK CC Tryd.f31 (Tryd.f31.body.getD .skip) = true := by kernel_rfl
theorem fat_value_Take : CC.P.funcs[31]? = some Tryd.f31 := by kernel_rfl
theorem ok_R20_Take : fnOK CC Tryd.f45 (Tryd.f45.body.getD .skip) = true := by kernel_rfl
theorem fat_R20_Take : CC.P.funcs[45]? = some Tryd.f45 := by kernel_rfl
theorem ok_value_Decode : fnOK CC Tryd.f25 (Tryd.f25.body.getD .skip) = true := by kernel_rfl
theorem fat_value_Decode : CC.P.funcs[25]? = some Tryd.f25 := by kernel_rfl
theorem ok_R20_Decode : fnOK CC Tryd.f26 (Tryd.f26.body.getD .skip) = true := by kernel_rfl
theorem fat_R20_Decode : CC.P.funcs[26]? = some Tryd.f26 := by kernel_rfl
/-- the bytes of a valid value -/
def ptW (v : Vl) : List UInt8 := if v.1 = 0 then encI 0 else if v.1 = 4 then encI 4 ++ encT v.2.2 else encI v.1 ++ encI v.2.1
def ptV (v : Vl) : List UInt8 := if ckV v ≠ 0 then encI 0 else ptW v
theorem ck_kd {v : Vl} (h : ckV v = 0) : (v.1 = 0 ∨ v.1 = 1 ∨ v.1 = 2 ∨ v.1 = 3 ∨ v.1 = 4) ∧ v.2.2.length ≤ 60 := by
  obtain ⟨k, n, s⟩ := v
  unfold ckV at h
  simp only at h ⊢
  cases ho : okN k n with
  | none => rw [ho] at h; cases h
  | some b =>
    rw [ho] at h
    cases b with
    | false => cases h
    | true =>
      simp only at h
      by_cases hl : 60 < s.length
      · rw [if_pos hl] at h; cases h
      · refine ⟨?_, by omega⟩
        unfold okN at ho
        by_cases e0 : k = 0 ∨ k = 4
        · omega
        · rw [if_neg e0] at ho
          by_cases e1 : k = 1
          · omega
          · rw [if_neg e1] at ho
            by_cases e2 : k = 2
            · omega
            · rw [if_neg e2] at ho
              by_cases e3 : k = 3
              · omega
              · rw [if_neg e3] at ho; cases ho

theorem call_value_Put (v : Vl) (hn : inI v.2.1) : ∃ bx, callL CC 27 [vlV v] [] = some (.ret (.str (ptV v)), bx) := by
  rw [callL_enter (fn := Tryd.f27) (c := Tryd.f27.body.getD .skip) rfl rfl fat_value_Put rfl ok_value_Put (Nat.le_of_ble_eq_true rfl)]
  have hc := op_value_Check v
  have hkd := ck_kd (v := v)
  have i0 := op_w_Int 0 (by unfold inI; omega)
  have i1 := op_w_Int 1 (by unfold inI; omega)
  have i2 := op_w_Int 2 (by unfold inI; omega)
  have i3 := op_w_Int 3 (by unfold inI; omega)
  have i4 := op_w_Int 4 (by unfold inI; omega)
  have hin := op_w_Int v.2.1 hn
  have ht := fun h => op_w_Text v.2.2 h
  have b0 := buildVl0
  have l1 := encI_len v.1
  have l2 := encI_len v.2.1
  have l3 := encI_len v.2.2.length
  obtain ⟨tu, htu⟩ := VLs
  unfold ptV
  by_cases c0 : ckV v = 0
  · rw [if_neg (fun h => h c0)]
    rw [c0] at hc
    obtain ⟨l4, l5⟩ := hkd c0
    have ht := ht (by omega)
    have a1 := fun k => str_add' (encI k) (encI v.2.1) (by have := encI_len k; omega)
    have a2 := str_add' (encI 4) (encT v.2.2) (by have := encI_len 4; unfold encT; rw [List.length_append]; omega)
    clear hkd
    unfold ptW
    obtain ⟨k, n, s⟩ := v
    unfold vlV at *
    simp only at *
    have a11 := a1 1
    have a12 := a1 2
    have a13 := a1 3
    clear a1 l1 l2 l3
    generalize encT s = T at *
    generalize encI n = N at *
    generalize encI 0 = E0 at *
    generalize encI 4 = E4 at *
    rcases l4 with rfl | rfl | rfl | rfl | rfl
    · rw [if_pos rfl]
      obtain ⟨ev, eo, so, co, ⟨hev, hco⟩, R⟩ := RULES CC; rw [← hev]
      rw [← hco] at hc i0
      simp only [fpart, part', Tryd.f27, Option.getD]
      simp (maxSteps := 5000000) only [SA, SB, SD, R, guardAt, binP, intP, indexAddrP, elemsOf, readCells, lenP, lenAt, resultsP, resultP, oneOr, reduceCtorEq, reduceIte, Nat.reduceEqDiff, Nat.reduceAdd, Nat.zero_add, Nat.reduceMul, Nat.reduceLT, Nat.reduceLeDiff, Int.reduceLT, Int.reduceNeg, Int.reduceLE, appendP, appendAt, letGo, setLoc, locVal, Int.reduceToNat, boxCells, und, TG, SE, SC, unP, htu, VLf, extP, loadR, loadP, storeR, storeK, storeCellsP, laid, lay, setBox, nchP, callAl, List.set_cons_zero, List.set_cons_succ, List.getElem?_cons_zero, List.getElem?_cons_succ, Option.map_some, Nat.le_refl, List.take_succ_cons, List.take_zero, List.drop_nil, List.filter_nil, List.cons_append, Int.reduceBEq, Int.reduceBNe, Int.reduceGT, Int.reduceGE, Int.reduceLE, Bool.not_true, Bool.not_false, hc, i0]
      exact ⟨_, rfl⟩
    · rw [if_neg (by decide), if_neg (by decide)]
      generalize encI 1 = E1 at *
      generalize E1 ++ N = Y at *
      obtain ⟨ev, eo, so, co, ⟨hev, hco⟩, R⟩ := RULES CC; rw [← hev]
      rw [← hco] at hc i1 hin
      simp only [fpart, part', Tryd.f27, Option.getD]
      simp (maxSteps := 5000000) only [SA, SB, SD, R, guardAt, binP, intP, indexAddrP, elemsOf, readCells, lenP, lenAt, resultsP, resultP, oneOr, reduceCtorEq, reduceIte, Nat.reduceEqDiff, Nat.reduceAdd, Nat.zero_add, Nat.reduceMul, Nat.reduceLT, Nat.reduceLeDiff, Int.reduceLT, Int.reduceNeg, Int.reduceLE, appendP, appendAt, letGo, setLoc, locVal, Int.reduceToNat, boxCells, und, TG, SE, SC, unP, htu, VLf, extP, loadR, loadP, storeR, storeK, storeCellsP, laid, lay, setBox, nchP, callAl, List.set_cons_zero, List.set_cons_succ, List.getElem?_cons_zero, List.getElem?_cons_succ, Option.map_some, Nat.le_refl, List.take_succ_cons, List.take_zero, List.drop_nil, List.filter_nil, List.cons_append, Int.reduceBEq, Int.reduceBNe, Int.reduceGT, Int.reduceGE, Int.reduceLE, Bool.not_true, Bool.not_false, hc, i1, hin, a11]
      exact ⟨_, rfl⟩
    · rw [if_neg (by decide), if_neg (by decide)]
      generalize encI 2 = E2 at *
      generalize E2 ++ N = Y at *
      obtain ⟨ev, eo, so, co, ⟨hev, hco⟩, R⟩ := RULES CC; rw [← hev]
      rw [← hco] at hc i2 hin
      simp only [fpart, part', Tryd.f27, Option.getD]
      simp (maxSteps := 5000000) only [SA, SB, SD, R, guardAt, binP, intP, indexAddrP, elemsOf, readCells, lenP, lenAt, resultsP, resultP, oneOr, reduceCtorEq, reduceIte, Nat.reduceEqDiff, Nat.reduceAdd, Nat.zero_add, Nat.reduceMul, Nat.reduceLT, Nat.reduceLeDiff, Int.reduceLT, Int.reduceNeg, Int.reduceLE, appendP, appendAt, letGo, setLoc, locVal, Int.reduceToNat, boxCells, und, TG, SE, SC, unP, htu, VLf, extP, loadR, loadP, storeR, storeK, storeCellsP, laid, lay, setBox, nchP, callAl, List.set_cons_zero, List.set_cons_succ, List.getElem?_cons_zero, List.getElem?_cons_succ, Option.map_some, Nat.le_refl, List.take_succ_cons, List.take_zero, List.drop_nil, List.filter_nil, List.cons_append, Int.reduceBEq, Int.reduceBNe, Int.reduceGT, Int.reduceGE, Int.reduceLE, Bool.not_true, Bool.not_false, hc, i2, hin, a12]
      exact ⟨_, rfl⟩
    · rw [if_neg (by decide), if_neg (by decide)]
      generalize encI 3 = E3 at *
      generalize E3 ++ N = Y at *
      obtain ⟨ev, eo, so, co, ⟨hev, hco⟩, R⟩ := RULES CC; rw [← hev]
      rw [← hco] at hc i3 hin
      simp only [fpart, part', Tryd.f27, Option.getD]
      simp (maxSteps := 5000000) only [SA, SB, SD, R, guardAt, binP, intP, indexAddrP, elemsOf, readCells, lenP, lenAt, resultsP, resultP, oneOr, reduceCtorEq, reduceIte, Nat.reduceEqDiff, Nat.reduceAdd, Nat.zero_add, Nat.reduceMul, Nat.reduceLT, Nat.reduceLeDiff, Int.reduceLT, Int.reduceNeg, Int.reduceLE, appendP, appendAt, letGo, setLoc, locVal, Int.reduceToNat, boxCells, und, TG, SE, SC, unP, htu, VLf, extP, loadR, loadP, storeR, storeK, storeCellsP, laid, lay, setBox, nchP, callAl, List.set_cons_zero, List.set_cons_succ, List.getElem?_cons_zero, List.getElem?_cons_succ, Option.map_some, Nat.le_refl, List.take_succ_cons, List.take_zero, List.drop_nil, List.filter_nil, List.cons_append, Int.reduceBEq, Int.reduceBNe, Int.reduceGT, Int.reduceGE, Int.reduceLE, Bool.not_true, Bool.not_false, hc, i3, hin, a13]
      exact ⟨_, rfl⟩
    · rw [if_neg (by decide), if_pos rfl]
      generalize E4 ++ T = Y at *
      obtain ⟨ev, eo, so, co, ⟨hev, hco⟩, R⟩ := RULES CC; rw [← hev]
      rw [← hco] at hc i4 ht
      simp only [fpart, part', Tryd.f27, Option.getD]
      simp (maxSteps := 5000000) only [SA, SB, SD, R, guardAt, binP, intP, indexAddrP, elemsOf, readCells, lenP, lenAt, resultsP, resultP, oneOr, reduceCtorEq, reduceIte, Nat.reduceEqDiff, Nat.reduceAdd, Nat.zero_add, Nat.reduceMul, Nat.reduceLT, Nat.reduceLeDiff, Int.reduceLT, Int.reduceNeg, Int.reduceLE, appendP, appendAt, letGo, setLoc, locVal, Int.reduceToNat, boxCells, und, TG, SE, SC, unP, htu, VLf, extP, loadR, loadP, storeR, storeK, storeCellsP, laid, lay, setBox, nchP, callAl, List.set_cons_zero, List.set_cons_succ, List.getElem?_cons_zero, List.getElem?_cons_succ, Option.map_some, Nat.le_refl, List.take_succ_cons, List.take_zero, List.drop_nil, List.filter_nil, List.cons_append, Int.reduceBEq, Int.reduceBNe, Int.reduceGT, Int.reduceGE, Int.reduceLE, Bool.not_true, Bool.not_false, hc, i4, ht, a2]
      exact ⟨_, rfl⟩
  · rw [if_pos c0]
    have c0p : (ckV v != 0) = true := by simpa using c0
    generalize ckV v = c at *
    generalize encI 0 = E0 at *
    unfold vlV at *
    obtain ⟨ev, eo, so, co, ⟨hev, hco⟩, R⟩ := RULES CC; rw [← hev]
    rw [← hco] at hc i0
    simp only [fpart, part', Tryd.f27, Option.getD]
    simp (maxSteps := 5000000) only [SA, SB, SD, R, guardAt, binP, intP, indexAddrP, elemsOf, readCells, lenP, lenAt, resultsP, resultP, oneOr, reduceCtorEq, reduceIte, Nat.reduceEqDiff, Nat.reduceAdd, Nat.zero_add, Nat.reduceMul, Nat.reduceLT, Nat.reduceLeDiff, Int.reduceLT, Int.reduceNeg, Int.reduceLE, appendP, appendAt, letGo, setLoc, locVal, Int.reduceToNat, boxCells, und, TG, SE, SC, unP, htu, VLf, extP, loadR, loadP, storeR, storeK, storeCellsP, laid, lay, setBox, nchP, callAl, List.set_cons_zero, List.set_cons_succ, List.getElem?_cons_zero, List.getElem?_cons_succ, Option.map_some, Nat.le_refl, List.take_succ_cons, List.take_zero, List.drop_nil, List.filter_nil, List.cons_append, Int.reduceBEq, Int.reduceBNe, Int.reduceGT, Int.reduceGE, Int.reduceLE, Bool.not_true, Bool.not_false, hc, c0p, b0, i0]
    exact ⟨_, rfl⟩
theorem op_value_Put (v : Vl) (hn : inI v.2.1) (bx) : callOp CC (callL CC) 27 [vlV v] bx = some (.ret (.str (ptV v)), bx) := by
  obtain ⟨b, h⟩ := call_value_Put v hn
  exact callOp_of rfl rfl h rfl
theorem call_R20_Put (v : Vl) (hn : inI v.2.1) : ∃ bx, callL CC 28 [vlV v] [] = some (.ret (.str (ptV v)), bx) := by
  rw [callL_enter (fn := Tryd.f28) (c := Tryd.f28.body.getD .skip) rfl rfl fat_R20_Put rfl ok_R20_Put (Nat.le_of_ble_eq_true rfl)]
  have hc := op_R20_Check v
  have hkd := ck_kd (v := v)
  have i0 := op_R02_Int 0 (by unfold inI; omega)
  have i1 := op_R02_Int 1 (by unfold inI; omega)
  have i2 := op_R02_Int 2 (by unfold inI; omega)
  have i3 := op_R02_Int 3 (by unfold inI; omega)
  have i4 := op_R02_Int 4 (by unfold inI; omega)
  have hin := op_R02_Int v.2.1 hn
  have ht := fun h => op_R02_Text v.2.2 h
  have b0 := buildVl0
  have l1 := encI_len v.1
  have l2 := encI_len v.2.1
  have l3 := encI_len v.2.2.length
  obtain ⟨tu, htu⟩ := VLs
  unfold ptV
  by_cases c0 : ckV v = 0
  · rw [if_neg (fun h => h c0)]
    rw [c0] at hc
    obtain ⟨l4, l5⟩ := hkd c0
    have ht := ht (by omega)
    have a1 := fun k => str_add' (encI k) (encI v.2.1) (by have := encI_len k; omega)
    have a2 := str_add' (encI 4) (encT v.2.2) (by have := encI_len 4; unfold encT; rw [List.length_append]; omega)
    clear hkd
    unfold ptW
    obtain ⟨k, n, s⟩ := v
    unfold vlV at *
    simp only at *
    have a11 := a1 1
    have a12 := a1 2
    have a13 := a1 3
    clear a1 l1 l2 l3
    generalize encT s = T at *
    generalize encI n = N at *
    generalize encI 0 = E0 at *
    generalize encI 4 = E4 at *
    rcases l4 with rfl | rfl | rfl | rfl | rfl
    · rw [if_pos rfl]
      obtain ⟨ev, eo, so, co, ⟨hev, hco⟩, R⟩ := RULES CC; rw [← hev]
      rw [← hco] at hc i0
      simp only [fpart, part', Tryd.f28, Option.getD]
      simp (maxSteps := 5000000) only [SA, SB, SD, R, guardAt, binP, intP, indexAddrP, elemsOf, readCells, lenP, lenAt, resultsP, resultP, oneOr, reduceCtorEq, reduceIte, Nat.reduceEqDiff, Nat.reduceAdd, Nat.zero_add, Nat.reduceMul, Nat.reduceLT, Nat.reduceLeDiff, Int.reduceLT, Int.reduceNeg, Int.reduceLE, appendP, appendAt, letGo, setLoc, locVal, Int.reduceToNat, boxCells, und, TG, SE, SC, unP, htu, VLf, extP, loadR, loadP, storeR, storeK, storeCellsP, laid, lay, setBox, nchP, callAl, List.set_cons_zero, List.set_cons_succ, List.getElem?_cons_zero, List.getElem?_cons_succ, Option.map_some, Nat.le_refl, List.take_succ_cons, List.take_zero, List.drop_nil, List.filter_nil, List.cons_append, Int.reduceBEq, Int.reduceBNe, Int.reduceGT, Int.reduceGE, Int.reduceLE, Bool.not_true, Bool.not_false, hc, i0]
      exact ⟨_, rfl⟩
    · rw [if_neg (by decide), if_neg (by decide)]
      generalize encI 1 = E1 at *
      generalize E1 ++ N = Y at *
      obtain ⟨ev, eo, so, co, ⟨hev, hco⟩, R⟩ := RULES CC; rw [← hev]
      rw [← hco] at hc i1 hin
      simp only [fpart, part', Tryd.f28, Option.getD]
      simp (maxSteps := 5000000) only [SA, SB, SD, R, guardAt, binP, intP, indexAddrP, elemsOf, readCells, lenP, lenAt, resultsP, resultP, oneOr, reduceCtorEq, reduceIte, Nat.reduceEqDiff, Nat.reduceAdd, Nat.zero_add, Nat.reduceMul, Nat.reduceLT, Nat.reduceLeDiff, Int.reduceLT, Int.reduceNeg, Int.reduceLE, appendP, appendAt, letGo, setLoc, locVal, Int.reduceToNat, boxCells, und, TG, SE, SC, unP, htu, VLf, extP, loadR, loadP, storeR, storeK, storeCellsP, laid, lay, setBox, nchP, callAl, List.set_cons_zero, List.set_cons_succ, List.getElem?_cons_zero, List.getElem?_cons_succ, Option.map_some, Nat.le_refl, List.take_succ_cons, List.take_zero, List.drop_nil, List.filter_nil, List.cons_append, Int.reduceBEq, Int.reduceBNe, Int.reduceGT, Int.reduceGE, Int.reduceLE, Bool.not_true, Bool.not_false, hc, i1, hin, a11]
      exact ⟨_, rfl⟩
    · rw [if_neg (by decide), if_neg (by decide)]
      generalize encI 2 = E2 at *
      generalize E2 ++ N = Y at *
      obtain ⟨ev, eo, so, co, ⟨hev, hco⟩, R⟩ := RULES CC; rw [← hev]
      rw [← hco] at hc i2 hin
      simp only [fpart, part', Tryd.f28, Option.getD]
      simp (maxSteps := 5000000) only [SA, SB, SD, R, guardAt, binP, intP, indexAddrP, elemsOf, readCells, lenP, lenAt, resultsP, resultP, oneOr, reduceCtorEq, reduceIte, Nat.reduceEqDiff, Nat.reduceAdd, Nat.zero_add, Nat.reduceMul, Nat.reduceLT, Nat.reduceLeDiff, Int.reduceLT, Int.reduceNeg, Int.reduceLE, appendP, appendAt, letGo, setLoc, locVal, Int.reduceToNat, boxCells, und, TG, SE, SC, unP, htu, VLf, extP, loadR, loadP, storeR, storeK, storeCellsP, laid, lay, setBox, nchP, callAl, List.set_cons_zero, List.set_cons_succ, List.getElem?_cons_zero, List.getElem?_cons_succ, Option.map_some, Nat.le_refl, List.take_succ_cons, List.take_zero, List.drop_nil, List.filter_nil, List.cons_append, Int.reduceBEq, Int.reduceBNe, Int.reduceGT, Int.reduceGE, Int.reduceLE, Bool.not_true, Bool.not_false, hc, i2, hin, a12]
      exact ⟨_, rfl⟩
    · rw [if_neg (by decide), if_neg (by decide)]
      generalize encI 3 = E3 at *
      generalize E3 ++ N = Y at *
      obtain ⟨ev, eo, so, co, ⟨hev, hco⟩, R⟩ := RULES CC; rw [← hev]
      rw [← hco] at hc i3 hin
      simp only [fpart, part', Tryd.f28, Option.getD]
      simp (maxSteps := 5000000) only [SA, SB, SD, R, guardAt, binP, intP, indexAddrP, elemsOf, readCells, lenP, lenAt, resultsP, resultP, oneOr, reduceCtorEq, reduceIte, Nat.reduceEqDiff, Nat.reduceAdd, Nat.zero_add, Nat.reduceMul, Nat.reduceLT, Nat.reduceLeDiff, Int.reduceLT, Int.reduceNeg, Int.reduceLE, appendP, appendAt, letGo, setLoc, locVal, Int.reduceToNat, boxCells, und, TG, SE, SC, unP, htu, VLf, extP, loadR, loadP, storeR, storeK, storeCellsP, laid, lay, setBox, nchP, callAl, List.set_cons_zero, List.set_cons_succ, List.getElem?_cons_zero, List.getElem?_cons_succ, Option.map_some, Nat.le_refl, List.take_succ_cons, List.take_zero, List.drop_nil, List.filter_nil, List.cons_append, Int.reduceBEq, Int.reduceBNe, Int.reduceGT, Int.reduceGE, Int.reduceLE, Bool.not_true, Bool.not_false, hc, i3, hin, a13]
      exact ⟨_, rfl⟩
    · rw [if_neg (by decide), if_pos rfl]
      generalize E4 ++ T = Y at *
      obtain ⟨ev, eo, so, co, ⟨hev, hco⟩, R⟩ := RULES CC; rw [← hev]
      rw [← hco] at hc i4 ht
      simp only [fpart, part', Tryd.f28, Option.getD]
      simp (maxSteps := 5000000) only [SA, SB, SD, R, guardAt, binP, intP, indexAddrP, elemsOf, readCells, lenP, lenAt, resultsP, resultP, oneOr, reduceCtorEq, reduceIte, Nat.reduceEqDiff, Nat.reduceAdd, Nat.zero_add, Nat.reduceMul, Nat.reduceLT, Nat.reduceLeDiff, Int.reduceLT, Int.reduceNeg, Int.reduceLE, appendP, appendAt, letGo, setLoc, locVal, Int.reduceToNat, boxCells, und, TG, SE, SC, unP, htu, VLf, extP, loadR, loadP, storeR, storeK, storeCellsP, laid, lay, setBox, nchP, callAl, List.set_cons_zero, List.set_cons_succ, List.getElem?_cons_zero, List.getElem?_cons_succ, Option.map_some, Nat.le_refl, List.take_succ_cons, List.take_zero, List.drop_nil, List.filter_nil, List.cons_append, Int.reduceBEq, Int.reduceBNe, Int.reduceGT, Int.reduceGE, Int.reduceLE, Bool.not_true, Bool.not_false, hc, i4, ht, a2]
      exact ⟨_, rfl⟩
  · rw [if_pos c0]
    have c0p : (ckV v != 0) = true := by simpa using c0
    generalize ckV v = c at *
    generalize encI 0 = E0 at *
    unfold vlV at *
    obtain ⟨ev, eo, so, co, ⟨hev, hco⟩, R⟩ := RULES CC; rw [← hev]
    rw [← hco] at hc i0
    simp only [fpart, part', Tryd.f28, Option.getD]
    simp (maxSteps := 5000000) only [SA, SB, SD, R, guardAt, binP, intP, indexAddrP, elemsOf, readCells, lenP, lenAt, resultsP, resultP, oneOr, reduceCtorEq, reduceIte, Nat.reduceEqDiff, Nat.reduceAdd, Nat.zero_add, Nat.reduceMul, Nat.reduceLT, Nat.reduceLeDiff, Int.reduceLT, Int.reduceNeg, Int.reduceLE, appendP, appendAt, letGo, setLoc, locVal, Int.reduceToNat, boxCells, und, TG, SE, SC, unP, htu, VLf, extP, loadR, loadP, storeR, storeK, storeCellsP, laid, lay, setBox, nchP, callAl, List.set_cons_zero, List.set_cons_succ, List.getElem?_cons_zero, List.getElem?_cons_succ, Option.map_some, Nat.le_refl, List.take_succ_cons, List.take_zero, List.drop_nil, List.filter_nil, List.cons_append, Int.reduceBEq, Int.reduceBNe, Int.reduceGT, Int.reduceGE, Int.reduceLE, Bool.not_true, Bool.not_false, hc, c0p, b0, i0]
    exact ⟨_, rfl⟩
theorem op_R20_Put (v : Vl) (hn : inI v.2.1) (bx) : callOp CC (callL CC) 28 [vlV v] bx = some (.ret (.str (ptV v)), bx) := by
  obtain ⟨b, h⟩ := call_R20_Put v hn
  exact callOp_of rfl rfl h rfl
def zb : PBox := .cells 26 [.int .i64 0, .int .i64 0, .str []]
theorem buildRd (s : List UInt8) : buildP CC 64 [(0, .str s), (2, .bool true)] = some (.agg [.str s, .int .i64 0, .bool true]) := by
  have h := (by kernel_rfl : CC.P.underlying 64 = some (.struct ((match Tryd.prog.underlying 64 with | some (.struct f) => f | _ => #[]))))
  have hz : tZero CC 64 = some (.agg [.str [], .int .i64 0, .bool false]) := by kernel_rfl
  have hp : ((match Tryd.prog.underlying 64 with | some (.struct f) => f | _ => #[]) : Array Field).toList.mapM (fun f => (tSize CC f.type).map fun s => (f.offset, s)) = some [(0, 1), (1, 1), (2, 1)] := by kernel_rfl
  unfold buildP
  rw [h, hz]
  simp only [hp]
  rfl
theorem buildRr (s : List UInt8) : buildP CC 76 [(0, .str s), (3, .bool true)] = some (.agg [.str s, .int .i64 0, .int .i64 0, .bool true]) := by
  have h := (by kernel_rfl : CC.P.underlying 76 = some (.struct ((match Tryd.prog.underlying 76 with | some (.struct f) => f | _ => #[]))))
  have hz : tZero CC 76 = some (.agg [.str [], .int .i64 0, .int .i64 0, .bool false]) := by kernel_rfl
  have hp : ((match Tryd.prog.underlying 76 with | some (.struct f) => f | _ => #[]) : Array Field).toList.mapM (fun f => (tSize CC f.type).map fun s => (f.offset, s)) = some [(0, 1), (1, 1), (2, 1), (3, 1)] := by kernel_rfl
  unfold buildP
  rw [h, hz]
  simp only [hp]
  rfl
theorem call_w_New (s : List UInt8) : callL CC 30 [.str s] [zb] = some (.ret (.bp 1 0), [zb, RdW s 0]) := by
  rw [callL_enter (fn := Tryd.f30) (c := Tryd.f30.body.getD .skip) rfl rfl fat_wire_New rfl ok_wire_New (Nat.le_of_ble_eq_true rfl)]
  have b := buildRd s
  have htu : True := trivial
  unfold RdW zb
  obtain ⟨ev, eo, so, co, ⟨hev, hco⟩, R⟩ := RULES CC; rw [← hev]
  simp only [fpart, part', Tryd.f30, Option.getD]
  simp (maxSteps := 5000000) only [SA, SB, SD, R, guardAt, binP, intP, indexAddrP, elemsOf, readCells, lenP, lenAt, resultsP, resultP, oneOr, reduceCtorEq, reduceIte, Nat.reduceEqDiff, Nat.reduceAdd, Nat.zero_add, Nat.reduceMul, Nat.reduceLT, Nat.reduceLeDiff, Int.reduceLT, Int.reduceNeg, Int.reduceLE, appendP, appendAt, letGo, setLoc, locVal, Int.reduceToNat, boxCells, und, TG, SE, SC, unP, htu, VLf, extP, loadR, loadP, storeR, storeK, storeCellsP, laid, lay, setBox, nchP, callAl, List.set_cons_zero, List.set_cons_succ, List.getElem?_cons_zero, List.getElem?_cons_succ, Option.map_some, Nat.le_refl, List.take_succ_cons, List.take_zero, List.drop_nil, List.filter_nil, List.cons_append, Int.reduceBEq, Int.reduceBNe, Int.reduceGT, Int.reduceGE, Int.reduceLE, Bool.not_true, Bool.not_false, b]
theorem op_w_New (s : List UInt8) : callOp CC (callL CC) 30 [.str s] [zb] = some (.ret (.bp 1 0), [zb, RdW s 0]) := by
  unfold callOp
  rw [if_pos (by rfl), call_w_New]
  rfl
theorem call_r_New (s : List UInt8) : callL CC 44 [.str s] [zb] = some (.ret (.bp 1 0), [zb, RdR s s 0]) := by
  rw [callL_enter (fn := Tryd.f44) (c := Tryd.f44.body.getD .skip) rfl rfl fat_R02_New rfl ok_R02_New (Nat.le_of_ble_eq_true rfl)]
  have b := buildRr s
  have htu : True := trivial
  have hz : ((s.length - s.length : Nat) : Int) = 0 := by omega
  unfold RdR zb
  rw [hz]
  obtain ⟨ev, eo, so, co, ⟨hev, hco⟩, R⟩ := RULES CC; rw [← hev]
  simp only [fpart, part', Tryd.f44, Option.getD]
  simp (maxSteps := 5000000) only [SA, SB, SD, R, guardAt, binP, intP, indexAddrP, elemsOf, readCells, lenP, lenAt, resultsP, resultP, oneOr, reduceCtorEq, reduceIte, Nat.reduceEqDiff, Nat.reduceAdd, Nat.zero_add, Nat.reduceMul, Nat.reduceLT, Nat.reduceLeDiff, Int.reduceLT, Int.reduceNeg, Int.reduceLE, appendP, appendAt, letGo, setLoc, locVal, Int.reduceToNat, boxCells, und, TG, SE, SC, unP, htu, VLf, extP, loadR, loadP, storeR, storeK, storeCellsP, laid, lay, setBox, nchP, callAl, List.set_cons_zero, List.set_cons_succ, List.getElem?_cons_zero, List.getElem?_cons_succ, Option.map_some, Nat.le_refl, List.take_succ_cons, List.take_zero, List.drop_nil, List.filter_nil, List.cons_append, Int.reduceBEq, Int.reduceBNe, Int.reduceGT, Int.reduceGE, Int.reduceLE, Bool.not_true, Bool.not_false, b]
theorem op_r_New (s : List UInt8) : callOp CC (callL CC) 44 [.str s] [zb] = some (.ret (.bp 1 0), [zb, RdR s s 0]) := by
  unfold callOp
  rw [if_pos (by rfl), call_r_New]
  rfl
/-- what is read of a value: the value, the rest, the error; before the check -/
def tkA (l : List UInt8) : Vl × List UInt8 × Int := if (rdI l 0).1 = 1 ∨ (rdI l 0).1 = 2 ∨ (rdI l 0).1 = 3 then (((rdI l 0).1, (rdI (rdI l 0).2.1 (rdI l 0).2.2).1, []), (rdI (rdI l 0).2.1 (rdI l 0).2.2).2)
  else if (rdI l 0).1 = 4 then ((4, 0, (rdT (rdI l 0).2.1 (rdI l 0).2.2).1), (rdT (rdI l 0).2.1 (rdI l 0).2.2).2) else (((rdI l 0).1, 0, []), (rdI l 0).2)
def tkE (a : Vl × List UInt8 × Int) : Int := if a.2.2 ≠ 0 then a.2.2 else if ckV a.1 ≠ 0 then 4 else 0
def tkF (a : Vl × List UInt8 × Int) : Vl := if tkE a ≠ 0 then (0, 0, []) else a.1
theorem rdT_len (l : List UInt8) (e : Int) : (rdT l e).2.1.length ≤ l.length := by
  have := rdC_len l e
  unfold rdT
  split
  · exact this
  · split
    · exact this
    · simp only [List.length_drop]; omega
theorem Sfx.rdT {S l : List UInt8} (h : Sfx S l) (e : Int) : Sfx S (rdT l e).2.1 := by
  have := h.rdC e
  unfold Go.HH.rdT
  split
  · exact this
  · split
    · exact this
    · exact this.drop _
theorem Sfx.tkA {S l : List UInt8} (h : Sfx S l) : Sfx S (tkA l).2.1 := by
  unfold Go.HH.tkA
  split
  · exact (h.rdI 0).rdI _
  · split
    · exact (h.rdI 0).rdT _
    · exact h.rdI 0
theorem w_Take_1 (l : List UInt8) (hl : l.length ≤ 900000) (l1 : List UInt8) (e1 : Int) (hr : rdI l 0 = (1, l1, e1)) (n : Int) (l2 : List UInt8) (e2 : Int) (hr2 : rdI l1 e1 = (n, l2, e2)) (h1 : l1.length ≤ 900000) : ∃ X Y, callL CC 31 [.bp 1 0] [zb, RdW l 0] = some (.ret (vlV (tkF (((1 : Int), n, ([] : List UInt8)), l2, e2))), [zb, RdW ((((1 : Int), n, ([] : List UInt8)), l2, e2)).2.1 (tkE (((1 : Int), n, ([] : List UInt8)), l2, e2)), X, Y]) := by
  rw [callL_enter (fn := Tryd.f31) (c := Tryd.f31.body.getD .skip) rfl rfl fat_value_Take rfl ok_value_Take (Nat.le_of_ble_eq_true rfl)]
  obtain ⟨tu, htu⟩ := VLs
  have b0 := buildVl0
  have b1 := buildVl1 1
  have i1 := op_w_RInt [zb, RdW l 0, zb] 1 l 0 hl rfl
  rw [hr] at i1
  simp only [List.set_cons_succ, List.set_cons_zero] at i1
  have i2 := op_w_RInt [zb, RdW l1 e1, zb, PBox.cells 26 [.int .i64 1, .int .i64 0, .str []]] 1 l1 e1 h1 rfl
  rw [hr2] at i2
  simp only [List.set_cons_succ, List.set_cons_zero] at i2
  have hck := op_value_Check (1, n, [])
  have her := op_w_Err [zb, RdW l2 e2, zb, PBox.cells 26 [.int .i64 1, .int .i64 n, .str []]] 1 l2 e2 rfl
  have hfa := op_w_Fail [zb, RdW l2 e2, zb, PBox.cells 26 [.int .i64 1, .int .i64 n, .str []]] 1 l2 e2 4 rfl
  have hf4 := op_w_Err [zb, RdW l2 4, zb, PBox.cells 26 [.int .i64 1, .int .i64 n, .str []]] 1 l2 4 rfl
  simp only [List.set_cons_succ, List.set_cons_zero] at hfa
  unfold tkF tkE
  simp only
  generalize ckV (1, n, []) = ck at *
  by_cases e0 : e2 = 0
  · rw [if_pos e0] at hfa
    subst e0
    by_cases c0 : ck = 0
    · have c0p : (ck != 0) = false := by simp [c0]
      subst c0
      simp only [ne_eq, not_true_eq_false, if_false]
      unfold vlV zb RdW at *
      obtain ⟨ev, eo, so, co, ⟨hev, hco⟩, R⟩ := RULES CC; rw [← hev]
      rw [← hco] at i1 i2 hck her
      simp only [fpart, part', Tryd.f31, Option.getD]
      simp (maxSteps := 5000000) only [SA, SB, SD, R, guardAt, binP, intP, indexAddrP, elemsOf, readCells, lenP, lenAt, resultsP, resultP, oneOr, reduceCtorEq, reduceIte, Nat.reduceEqDiff, Nat.reduceAdd, Nat.zero_add, Nat.reduceMul, Nat.reduceLT, Nat.reduceLeDiff, Int.reduceLT, Int.reduceNeg, Int.reduceLE, appendP, appendAt, letGo, setLoc, locVal, Int.reduceToNat, boxCells, und, TG, SE, SC, unP, htu, VLf, extP, loadR, loadP, storeR, storeK, storeCellsP, laid, lay, setBox, nchP, callAl, List.set_cons_zero, List.set_cons_succ, List.getElem?_cons_zero, List.getElem?_cons_succ, Option.map_some, Nat.le_refl, List.take_succ_cons, List.take_zero, List.drop_nil, List.filter_nil, List.cons_append, Int.reduceBEq, Int.reduceBNe, Int.reduceGT, Int.reduceGE, Int.reduceLE, Bool.not_true, Bool.not_false, i1, i2, hck, her, b0, b1]
      exact ⟨_, _, rfl⟩
    · have c0p : (ck != 0) = true := by simpa using c0
      have ht : (if (0 : Int) ≠ 0 then (0 : Int) else if ck ≠ 0 then 4 else 0) = 4 := by rw [if_neg (fun h => h rfl), if_pos c0]
      rw [ht, if_pos (by decide)]
      unfold vlV zb RdW at *
      obtain ⟨ev, eo, so, co, ⟨hev, hco⟩, R⟩ := RULES CC; rw [← hev]
      rw [← hco] at i1 i2 hck hfa hf4
      simp only [fpart, part', Tryd.f31, Option.getD]
      simp (maxSteps := 5000000) only [SA, SB, SD, R, guardAt, binP, intP, indexAddrP, elemsOf, readCells, lenP, lenAt, resultsP, resultP, oneOr, reduceCtorEq, reduceIte, Nat.reduceEqDiff, Nat.reduceAdd, Nat.zero_add, Nat.reduceMul, Nat.reduceLT, Nat.reduceLeDiff, Int.reduceLT, Int.reduceNeg, Int.reduceLE, appendP, appendAt, letGo, setLoc, locVal, Int.reduceToNat, boxCells, und, TG, SE, SC, unP, htu, VLf, extP, loadR, loadP, storeR, storeK, storeCellsP, laid, lay, setBox, nchP, callAl, List.set_cons_zero, List.set_cons_succ, List.getElem?_cons_zero, List.getElem?_cons_succ, Option.map_some, Nat.le_refl, List.take_succ_cons, List.take_zero, List.drop_nil, List.filter_nil, List.cons_append, Int.reduceBEq, Int.reduceBNe, Int.reduceGT, Int.reduceGE, Int.reduceLE, Bool.not_true, Bool.not_false, i1, i2, hck, c0p, hfa, hf4, b0, b1]
      exact ⟨_, _, rfl⟩
  · have e0p : (e2 != 0) = true := by simpa using e0
    have e0q : (e2 == 0) = false := by simpa using e0
    rw [if_neg e0] at hfa
    rw [if_pos e0, if_pos e0]
    by_cases c0 : ck = 0
    · have c0p : (ck != 0) = false := by simp [c0]
      subst c0
      unfold vlV zb RdW at *
      obtain ⟨ev, eo, so, co, ⟨hev, hco⟩, R⟩ := RULES CC; rw [← hev]
      rw [← hco] at i1 i2 hck her
      simp only [fpart, part', Tryd.f31, Option.getD]
      simp (maxSteps := 5000000) only [SA, SB, SD, R, guardAt, binP, intP, indexAddrP, elemsOf, readCells, lenP, lenAt, resultsP, resultP, oneOr, reduceCtorEq, reduceIte, Nat.reduceEqDiff, Nat.reduceAdd, Nat.zero_add, Nat.reduceMul, Nat.reduceLT, Nat.reduceLeDiff, Int.reduceLT, Int.reduceNeg, Int.reduceLE, appendP, appendAt, letGo, setLoc, locVal, Int.reduceToNat, boxCells, und, TG, SE, SC, unP, htu, VLf, extP, loadR, loadP, storeR, storeK, storeCellsP, laid, lay, setBox, nchP, callAl, List.set_cons_zero, List.set_cons_succ, List.getElem?_cons_zero, List.getElem?_cons_succ, Option.map_some, Nat.le_refl, List.take_succ_cons, List.take_zero, List.drop_nil, List.filter_nil, List.cons_append, Int.reduceBEq, Int.reduceBNe, Int.reduceGT, Int.reduceGE, Int.reduceLE, Bool.not_true, Bool.not_false, i1, i2, hck, e0p, her, b0, b1]
      exact ⟨_, _, rfl⟩
    · have c0p : (ck != 0) = true := by simpa using c0
      unfold vlV zb RdW at *
      obtain ⟨ev, eo, so, co, ⟨hev, hco⟩, R⟩ := RULES CC; rw [← hev]
      rw [← hco] at i1 i2 hck hfa her
      simp only [fpart, part', Tryd.f31, Option.getD]
      simp (maxSteps := 5000000) only [SA, SB, SD, R, guardAt, binP, intP, indexAddrP, elemsOf, readCells, lenP, lenAt, resultsP, resultP, oneOr, reduceCtorEq, reduceIte, Nat.reduceEqDiff, Nat.reduceAdd, Nat.zero_add, Nat.reduceMul, Nat.reduceLT, Nat.reduceLeDiff, Int.reduceLT, Int.reduceNeg, Int.reduceLE, appendP, appendAt, letGo, setLoc, locVal, Int.reduceToNat, boxCells, und, TG, SE, SC, unP, htu, VLf, extP, loadR, loadP, storeR, storeK, storeCellsP, laid, lay, setBox, nchP, callAl, List.set_cons_zero, List.set_cons_succ, List.getElem?_cons_zero, List.getElem?_cons_succ, Option.map_some, Nat.le_refl, List.take_succ_cons, List.take_zero, List.drop_nil, List.filter_nil, List.cons_append, Int.reduceBEq, Int.reduceBNe, Int.reduceGT, Int.reduceGE, Int.reduceLE, Bool.not_true, Bool.not_false, i1, i2, hck, c0p, hfa, e0p, her, b0, b1]
      exact ⟨_, _, rfl⟩
theorem w_Take_2 (l : List UInt8) (hl : l.length ≤ 900000) (l1 : List UInt8) (e1 : Int) (hr : rdI l 0 = (2, l1, e1)) (n : Int) (l2 : List UInt8) (e2 : Int) (hr2 : rdI l1 e1 = (n, l2, e2)) (h1 : l1.length ≤ 900000) : ∃ X Y, callL CC 31 [.bp 1 0] [zb, RdW l 0] = some (.ret (vlV (tkF (((2 : Int), n, ([] : List UInt8)), l2, e2))), [zb, RdW ((((2 : Int), n, ([] : List UInt8)), l2, e2)).2.1 (tkE (((2 : Int), n, ([] : List UInt8)), l2, e2)), X, Y]) := by
  rw [callL_enter (fn := Tryd.f31) (c := Tryd.f31.body.getD .skip) rfl rfl fat_value_Take rfl ok_value_Take (Nat.le_of_ble_eq_true rfl)]
  obtain ⟨tu, htu⟩ := VLs
  have b0 := buildVl0
  have b1 := buildVl1 2
  have i1 := op_w_RInt [zb, RdW l 0, zb] 1 l 0 hl rfl
  rw [hr] at i1
  simp only [List.set_cons_succ, List.set_cons_zero] at i1
  have i2 := op_w_RInt [zb, RdW l1 e1, zb, PBox.cells 26 [.int .i64 2, .int .i64 0, .str []]] 1 l1 e1 h1 rfl
  rw [hr2] at i2
  simp only [List.set_cons_succ, List.set_cons_zero] at i2
  have hck := op_value_Check (2, n, [])
  have her := op_w_Err [zb, RdW l2 e2, zb, PBox.cells 26 [.int .i64 2, .int .i64 n, .str []]] 1 l2 e2 rfl
  have hfa := op_w_Fail [zb, RdW l2 e2, zb, PBox.cells 26 [.int .i64 2, .int .i64 n, .str []]] 1 l2 e2 4 rfl
  have hf4 := op_w_Err [zb, RdW l2 4, zb, PBox.cells 26 [.int .i64 2, .int .i64 n, .str []]] 1 l2 4 rfl
  simp only [List.set_cons_succ, List.set_cons_zero] at hfa
  unfold tkF tkE
  simp only
  generalize ckV (2, n, []) = ck at *
  by_cases e0 : e2 = 0
  · rw [if_pos e0] at hfa
    subst e0
    by_cases c0 : ck = 0
    · have c0p : (ck != 0) = false := by simp [c0]
      subst c0
      simp only [ne_eq, not_true_eq_false, if_false]
      unfold vlV zb RdW at *
      obtain ⟨ev, eo, so, co, ⟨hev, hco⟩, R⟩ := RULES CC; rw [← hev]
      rw [← hco] at i1 i2 hck her
      simp only [fpart, part', Tryd.f31, Option.getD]
      simp (maxSteps := 5000000) only [SA, SB, SD, R, guardAt, binP, intP, indexAddrP, elemsOf, readCells, lenP, lenAt, resultsP, resultP, oneOr, reduceCtorEq, reduceIte, Nat.reduceEqDiff, Nat.reduceAdd, Nat.zero_add, Nat.reduceMul, Nat.reduceLT, Nat.reduceLeDiff, Int.reduceLT, Int.reduceNeg, Int.reduceLE, appendP, appendAt, letGo, setLoc, locVal, Int.reduceToNat, boxCells, und, TG, SE, SC, unP, htu, VLf, extP, loadR, loadP, storeR, storeK, storeCellsP, laid, lay, setBox, nchP, callAl, List.set_cons_zero, List.set_cons_succ, List.getElem?_cons_zero, List.getElem?_cons_succ, Option.map_some, Nat.le_refl, List.take_succ_cons, List.take_zero, List.drop_nil, List.filter_nil, List.cons_append, Int.reduceBEq, Int.reduceBNe, Int.reduceGT, Int.reduceGE, Int.reduceLE, Bool.not_true, Bool.not_false, i1, i2, hck, her, b0, b1]
      exact ⟨_, _, rfl⟩
    · have c0p : (ck != 0) = true := by simpa using c0
      have ht : (if (0 : Int) ≠ 0 then (0 : Int) else if ck ≠ 0 then 4 else 0) = 4 := by rw [if_neg (fun h => h rfl), if_pos c0]
      rw [ht, if_pos (by decide)]
      unfold vlV zb RdW at *
      obtain ⟨ev, eo, so, co, ⟨hev, hco⟩, R⟩ := RULES CC; rw [← hev]
      rw [← hco] at i1 i2 hck hfa hf4
      simp only [fpart, part', Tryd.f31, Option.getD]
      simp (maxSteps := 5000000) only [SA, SB, SD, R, guardAt, binP, intP, indexAddrP, elemsOf, readCells, lenP, lenAt, resultsP, resultP, oneOr, reduceCtorEq, reduceIte, Nat.reduceEqDiff, Nat.reduceAdd, Nat.zero_add, Nat.reduceMul, Nat.reduceLT, Nat.reduceLeDiff, Int.reduceLT, Int.reduceNeg, Int.reduceLE, appendP, appendAt, letGo, setLoc, locVal, Int.reduceToNat, boxCells, und, TG, SE, SC, unP, htu, VLf, extP, loadR, loadP, storeR, storeK, storeCellsP, laid, lay, setBox, nchP, callAl, List.set_cons_zero, List.set_cons_succ, List.getElem?_cons_zero, List.getElem?_cons_succ, Option.map_some, Nat.le_refl, List.take_succ_cons, List.take_zero, List.drop_nil, List.filter_nil, List.cons_append, Int.reduceBEq, Int.reduceBNe, Int.reduceGT, Int.reduceGE, Int.reduceLE, Bool.not_true, Bool.not_false, i1, i2, hck, c0p, hfa, hf4, b0, b1]
      exact ⟨_, _, rfl⟩
  · have e0p : (e2 != 0) = true := by simpa using e0
    have e0q : (e2 == 0) = false := by simpa using e0
    rw [if_neg e0] at hfa
    rw [if_pos e0, if_pos e0]
    by_cases c0 : ck = 0
    · have c0p : (ck != 0) = false := by simp [c0]
      subst c0
      unfold vlV zb RdW at *
      obtain ⟨ev, eo, so, co, ⟨hev, hco⟩, R⟩ := RULES CC; rw [← hev]
      rw [← hco] at i1 i2 hck her
      simp only [fpart, part', Tryd.f31, Option.getD]
      simp (maxSteps := 5000000) only [SA, SB, SD, R, guardAt, binP, intP, indexAddrP, elemsOf, readCells, lenP, lenAt, resultsP, resultP, oneOr, reduceCtorEq, reduceIte, Nat.reduceEqDiff, Nat.reduceAdd, Nat.zero_add, Nat.reduceMul, Nat.reduceLT, Nat.reduceLeDiff, Int.reduceLT, Int.reduceNeg, Int.reduceLE, appendP, appendAt, letGo, setLoc, locVal, Int.reduceToNat, boxCells, und, TG, SE, SC, unP, htu, VLf, extP, loadR, loadP, storeR, storeK, storeCellsP, laid, lay, setBox, nchP, callAl, List.set_cons_zero, List.set_cons_succ, List.getElem?_cons_zero, List.getElem?_cons_succ, Option.map_some, Nat.le_refl, List.take_succ_cons, List.take_zero, List.drop_nil, List.filter_nil, List.cons_append, Int.reduceBEq, Int.reduceBNe, Int.reduceGT, Int.reduceGE, Int.reduceLE, Bool.not_true, Bool.not_false, i1, i2, hck, e0p, her, b0, b1]
      exact ⟨_, _, rfl⟩
    · have c0p : (ck != 0) = true := by simpa using c0
      unfold vlV zb RdW at *
      obtain ⟨ev, eo, so, co, ⟨hev, hco⟩, R⟩ := RULES CC; rw [← hev]
      rw [← hco] at i1 i2 hck hfa her
      simp only [fpart, part', Tryd.f31, Option.getD]
      simp (maxSteps := 5000000) only [SA, SB, SD, R, guardAt, binP, intP, indexAddrP, elemsOf, readCells, lenP, lenAt, resultsP, resultP, oneOr, reduceCtorEq, reduceIte, Nat.reduceEqDiff, Nat.reduceAdd, Nat.zero_add, Nat.reduceMul, Nat.reduceLT, Nat.reduceLeDiff, Int.reduceLT, Int.reduceNeg, Int.reduceLE, appendP, appendAt, letGo, setLoc, locVal, Int.reduceToNat, boxCells, und, TG, SE, SC, unP, htu, VLf, extP, loadR, loadP, storeR, storeK, storeCellsP, laid, lay, setBox, nchP, callAl, List.set_cons_zero, List.set_cons_succ, List.getElem?_cons_zero, List.getElem?_cons_succ, Option.map_some, Nat.le_refl, List.take_succ_cons, List.take_zero, List.drop_nil, List.filter_nil, List.cons_append, Int.reduceBEq, Int.reduceBNe, Int.reduceGT, Int.reduceGE, Int.reduceLE, Bool.not_true, Bool.not_false, i1, i2, hck, c0p, hfa, e0p, her, b0, b1]
      exact ⟨_, _, rfl⟩
theorem w_Take_3 (l : List UInt8) (hl : l.length ≤ 900000) (l1 : List UInt8) (e1 : Int) (hr : rdI l 0 = (3, l1, e1)) (n : Int) (l2 : List UInt8) (e2 : Int) (hr2 : rdI l1 e1 = (n, l2, e2)) (h1 : l1.length ≤ 900000) : ∃ X Y, callL CC 31 [.bp 1 0] [zb, RdW l 0] = some (.ret (vlV (tkF (((3 : Int), n, ([] : List UInt8)), l2, e2))), [zb, RdW ((((3 : Int), n, ([] : List UInt8)), l2, e2)).2.1 (tkE (((3 : Int), n, ([] : List UInt8)), l2, e2)), X, Y]) := by
  rw [callL_enter (fn := Tryd.f31) (c := Tryd.f31.body.getD .skip) rfl rfl fat_value_Take rfl ok_value_Take (Nat.le_of_ble_eq_true rfl)]
  obtain ⟨tu, htu⟩ := VLs
  have b0 := buildVl0
  have b1 := buildVl1 3
  have i1 := op_w_RInt [zb, RdW l 0, zb] 1 l 0 hl rfl
  rw [hr] at i1
  simp only [List.set_cons_succ, List.set_cons_zero] at i1
  have i2 := op_w_RInt [zb, RdW l1 e1, zb, PBox.cells 26 [.int .i64 3, .int .i64 0, .str []]] 1 l1 e1 h1 rfl
  rw [hr2] at i2
  simp only [List.set_cons_succ, List.set_cons_zero] at i2
  have hck := op_value_Check (3, n, [])
  have her := op_w_Err [zb, RdW l2 e2, zb, PBox.cells 26 [.int .i64 3, .int .i64 n, .str []]] 1 l2 e2 rfl
  have hfa := op_w_Fail [zb, RdW l2 e2, zb, PBox.cells 26 [.int .i64 3, .int .i64 n, .str []]] 1 l2 e2 4 rfl
  have hf4 := op_w_Err [zb, RdW l2 4, zb, PBox.cells 26 [.int .i64 3, .int .i64 n, .str []]] 1 l2 4 rfl
  simp only [List.set_cons_succ, List.set_cons_zero] at hfa
  unfold tkF tkE
  simp only
  generalize ckV (3, n, []) = ck at *
  by_cases e0 : e2 = 0
  · rw [if_pos e0] at hfa
    subst e0
    by_cases c0 : ck = 0
    · have c0p : (ck != 0) = false := by simp [c0]
      subst c0
      simp only [ne_eq, not_true_eq_false, if_false]
      unfold vlV zb RdW at *
      obtain ⟨ev, eo, so, co, ⟨hev, hco⟩, R⟩ := RULES CC; rw [← hev]
      rw [← hco] at i1 i2 hck her
      simp only [fpart, part', Tryd.f31, Option.getD]
      simp (maxSteps := 5000000) only [SA, SB, SD, R, guardAt, binP, intP, indexAddrP, elemsOf, readCells, lenP, lenAt, resultsP, resultP, oneOr, reduceCtorEq, reduceIte, Nat.reduceEqDiff, Nat.reduceAdd, Nat.zero_add, Nat.reduceMul, Nat.reduceLT, Nat.reduceLeDiff, Int.reduceLT, Int.reduceNeg, Int.reduceLE, appendP, appendAt, letGo, setLoc, locVal, Int.reduceToNat, boxCells, und, TG, SE, SC, unP, htu, VLf, extP, loadR, loadP, storeR, storeK, storeCellsP, laid, lay, setBox, nchP, callAl, List.set_cons_zero, List.set_cons_succ, List.getElem?_cons_zero, List.getElem?_cons_succ, Option.map_some, Nat.le_refl, List.take_succ_cons, List.take_zero, List.drop_nil, List.filter_nil, List.cons_append, Int.reduceBEq, Int.reduceBNe, Int.reduceGT, Int.reduceGE, Int.reduceLE, Bool.not_true, Bool.not_false, i1, i2, hck, her, b0, b1]
      exact ⟨_, _, rfl⟩
    · have c0p : (ck != 0) = true := by simpa using c0
      have ht : (if (0 : Int) ≠ 0 then (0 : Int) else if ck ≠ 0 then 4 else 0) = 4 := by rw [if_neg (fun h => h rfl), if_pos c0]
      rw [ht, if_pos (by decide)]
      unfold vlV zb RdW at *
      obtain ⟨ev, eo, so, co, ⟨hev, hco⟩, R⟩ := RULES CC; rw [← hev]
      rw [← hco] at i1 i2 hck hfa hf4
      simp only [fpart, part', Tryd.f31, Option.getD]
      simp (maxSteps := 5000000) only [SA, SB, SD, R, guardAt, binP, intP, indexAddrP, elemsOf, readCells, lenP, lenAt, resultsP, resultP, oneOr, reduceCtorEq, reduceIte, Nat.reduceEqDiff, Nat.reduceAdd, Nat.zero_add, Nat.reduceMul, Nat.reduceLT, Nat.reduceLeDiff, Int.reduceLT, Int.reduceNeg, Int.reduceLE, appendP, appendAt, letGo, setLoc, locVal, Int.reduceToNat, boxCells, und, TG, SE, SC, unP, htu, VLf, extP, loadR, loadP, storeR, storeK, storeCellsP, laid, lay, setBox, nchP, callAl, List.set_cons_zero, List.set_cons_succ, List.getElem?_cons_zero, List.getElem?_cons_succ, Option.map_some, Nat.le_refl, List.take_succ_cons, List.take_zero, List.drop_nil, List.filter_nil, List.cons_append, Int.reduceBEq, Int.reduceBNe, Int.reduceGT, Int.reduceGE, Int.reduceLE, Bool.not_true, Bool.not_false, i1, i2, hck, c0p, hfa, hf4, b0, b1]
      exact ⟨_, _, rfl⟩
  · have e0p : (e2 != 0) = true := by simpa using e0
    have e0q : (e2 == 0) = false := by simpa using e0
    rw [if_neg e0] at hfa
    rw [if_pos e0, if_pos e0]
    by_cases c0 : ck = 0
    · have c0p : (ck != 0) = false := by simp [c0]
      subst c0
      unfold vlV zb RdW at *
      obtain ⟨ev, eo, so, co, ⟨hev, hco⟩, R⟩ := RULES CC; rw [← hev]
      rw [← hco] at i1 i2 hck her
      simp only [fpart, part', Tryd.f31, Option.getD]
      simp (maxSteps := 5000000) only [SA, SB, SD, R, guardAt, binP, intP, indexAddrP, elemsOf, readCells, lenP, lenAt, resultsP, resultP, oneOr, reduceCtorEq, reduceIte, Nat.reduceEqDiff, Nat.reduceAdd, Nat.zero_add, Nat.reduceMul, Nat.reduceLT, Nat.reduceLeDiff, Int.reduceLT, Int.reduceNeg, Int.reduceLE, appendP, appendAt, letGo, setLoc, locVal, Int.reduceToNat, boxCells, und, TG, SE, SC, unP, htu, VLf, extP, loadR, loadP, storeR, storeK, storeCellsP, laid, lay, setBox, nchP, callAl, List.set_cons_zero, List.set_cons_succ, List.getElem?_cons_zero, List.getElem?_cons_succ, Option.map_some, Nat.le_refl, List.take_succ_cons, List.take_zero, List.drop_nil, List.filter_nil, List.cons_append, Int.reduceBEq, Int.reduceBNe, Int.reduceGT, Int.reduceGE, Int.reduceLE, Bool.not_true, Bool.not_false, i1, i2, hck, e0p, her, b0, b1]
      exact ⟨_, _, rfl⟩
    · have c0p : (ck != 0) = true := by simpa using c0
      unfold vlV zb RdW at *
      obtain ⟨ev, eo, so, co, ⟨hev, hco⟩, R⟩ := RULES CC; rw [← hev]
      rw [← hco] at i1 i2 hck hfa her
      simp only [fpart, part', Tryd.f31, Option.getD]
      simp (maxSteps := 5000000) only [SA, SB, SD, R, guardAt, binP, intP, indexAddrP, elemsOf, readCells, lenP, lenAt, resultsP, resultP, oneOr, reduceCtorEq, reduceIte, Nat.reduceEqDiff, Nat.reduceAdd, Nat.zero_add, Nat.reduceMul, Nat.reduceLT, Nat.reduceLeDiff, Int.reduceLT, Int.reduceNeg, Int.reduceLE, appendP, appendAt, letGo, setLoc, locVal, Int.reduceToNat, boxCells, und, TG, SE, SC, unP, htu, VLf, extP, loadR, loadP, storeR, storeK, storeCellsP, laid, lay, setBox, nchP, callAl, List.set_cons_zero, List.set_cons_succ, List.getElem?_cons_zero, List.getElem?_cons_succ, Option.map_some, Nat.le_refl, List.take_succ_cons, List.take_zero, List.drop_nil, List.filter_nil, List.cons_append, Int.reduceBEq, Int.reduceBNe, Int.reduceGT, Int.reduceGE, Int.reduceLE, Bool.not_true, Bool.not_false, i1, i2, hck, c0p, hfa, e0p, her, b0, b1]
      exact ⟨_, _, rfl⟩
theorem w_Take_4 (l : List UInt8) (hl : l.length ≤ 900000) (l1 : List UInt8) (e1 : Int) (hr : rdI l 0 = (4, l1, e1)) (s : List UInt8) (l2 : List UInt8) (e2 : Int) (hr2 : rdT l1 e1 = (s, l2, e2)) (h1 : l1.length ≤ 900000) : ∃ X Y, callL CC 31 [.bp 1 0] [zb, RdW l 0] = some (.ret (vlV (tkF (((4 : Int), (0 : Int), s), l2, e2))), [zb, RdW ((((4 : Int), (0 : Int), s), l2, e2)).2.1 (tkE (((4 : Int), (0 : Int), s), l2, e2)), X, Y]) := by
  rw [callL_enter (fn := Tryd.f31) (c := Tryd.f31.body.getD .skip) rfl rfl fat_value_Take rfl ok_value_Take (Nat.le_of_ble_eq_true rfl)]
  obtain ⟨tu, htu⟩ := VLs
  have b0 := buildVl0
  have b1 := buildVl1 4
  have i1 := op_w_RInt [zb, RdW l 0, zb] 1 l 0 hl rfl
  rw [hr] at i1
  simp only [List.set_cons_succ, List.set_cons_zero] at i1
  have i2 := op_w_RText [zb, RdW l1 e1, zb, PBox.cells 26 [.int .i64 4, .int .i64 0, .str []]] 1 l1 e1 h1 rfl
  rw [hr2] at i2
  simp only [List.set_cons_succ, List.set_cons_zero] at i2
  have hck := op_value_Check (4, 0, s)
  have her := op_w_Err [zb, RdW l2 e2, zb, PBox.cells 26 [.int .i64 4, .int .i64 0, .str s]] 1 l2 e2 rfl
  have hfa := op_w_Fail [zb, RdW l2 e2, zb, PBox.cells 26 [.int .i64 4, .int .i64 0, .str s]] 1 l2 e2 4 rfl
  have hf4 := op_w_Err [zb, RdW l2 4, zb, PBox.cells 26 [.int .i64 4, .int .i64 0, .str s]] 1 l2 4 rfl
  simp only [List.set_cons_succ, List.set_cons_zero] at hfa
  unfold tkF tkE
  simp only
  generalize ckV (4, 0, s) = ck at *
  by_cases e0 : e2 = 0
  · rw [if_pos e0] at hfa
    subst e0
    by_cases c0 : ck = 0
    · have c0p : (ck != 0) = false := by simp [c0]
      subst c0
      simp only [ne_eq, not_true_eq_false, if_false]
      unfold vlV zb RdW at *
      obtain ⟨ev, eo, so, co, ⟨hev, hco⟩, R⟩ := RULES CC; rw [← hev]
      rw [← hco] at i1 i2 hck her
      simp only [fpart, part', Tryd.f31, Option.getD]
      simp (maxSteps := 5000000) only [SA, SB, SD, R, guardAt, binP, intP, indexAddrP, elemsOf, readCells, lenP, lenAt, resultsP, resultP, oneOr, reduceCtorEq, reduceIte, Nat.reduceEqDiff, Nat.reduceAdd, Nat.zero_add, Nat.reduceMul, Nat.reduceLT, Nat.reduceLeDiff, Int.reduceLT, Int.reduceNeg, Int.reduceLE, appendP, appendAt, letGo, setLoc, locVal, Int.reduceToNat, boxCells, und, TG, SE, SC, unP, htu, VLf, extP, loadR, loadP, storeR, storeK, storeCellsP, laid, lay, setBox, nchP, callAl, List.set_cons_zero, List.set_cons_succ, List.getElem?_cons_zero, List.getElem?_cons_succ, Option.map_some, Nat.le_refl, List.take_succ_cons, List.take_zero, List.drop_nil, List.filter_nil, List.cons_append, Int.reduceBEq, Int.reduceBNe, Int.reduceGT, Int.reduceGE, Int.reduceLE, Bool.not_true, Bool.not_false, i1, i2, hck, her, b0, b1]
      exact ⟨_, _, rfl⟩
    · have c0p : (ck != 0) = true := by simpa using c0
      have ht : (if (0 : Int) ≠ 0 then (0 : Int) else if ck ≠ 0 then 4 else 0) = 4 := by rw [if_neg (fun h => h rfl), if_pos c0]
      rw [ht, if_pos (by decide)]
      unfold vlV zb RdW at *
      obtain ⟨ev, eo, so, co, ⟨hev, hco⟩, R⟩ := RULES CC; rw [← hev]
      rw [← hco] at i1 i2 hck hfa hf4
      simp only [fpart, part', Tryd.f31, Option.getD]
      simp (maxSteps := 5000000) only [SA, SB, SD, R, guardAt, binP, intP, indexAddrP, elemsOf, readCells, lenP, lenAt, resultsP, resultP, oneOr, reduceCtorEq, reduceIte, Nat.reduceEqDiff, Nat.reduceAdd, Nat.zero_add, Nat.reduceMul, Nat.reduceLT, Nat.reduceLeDiff, Int.reduceLT, Int.reduceNeg, Int.reduceLE, appendP, appendAt, letGo, setLoc, locVal, Int.reduceToNat, boxCells, und, TG, SE, SC, unP, htu, VLf, extP, loadR, loadP, storeR, storeK, storeCellsP, laid, lay, setBox, nchP, callAl, List.set_cons_zero, List.set_cons_succ, List.getElem?_cons_zero, List.getElem?_cons_succ, Option.map_some, Nat.le_refl, List.take_succ_cons, List.take_zero, List.drop_nil, List.filter_nil, List.cons_append, Int.reduceBEq, Int.reduceBNe, Int.reduceGT, Int.reduceGE, Int.reduceLE, Bool.not_true, Bool.not_false, i1, i2, hck, c0p, hfa, hf4, b0, b1]
      exact ⟨_, _, rfl⟩
  · have e0p : (e2 != 0) = true := by simpa using e0
    have e0q : (e2 == 0) = false := by simpa using e0
    rw [if_neg e0] at hfa
    rw [if_pos e0, if_pos e0]
    by_cases c0 : ck = 0
    · have c0p : (ck != 0) = false := by simp [c0]
      subst c0
      unfold vlV zb RdW at *
      obtain ⟨ev, eo, so, co, ⟨hev, hco⟩, R⟩ := RULES CC; rw [← hev]
      rw [← hco] at i1 i2 hck her
      simp only [fpart, part', Tryd.f31, Option.getD]
      simp (maxSteps := 5000000) only [SA, SB, SD, R, guardAt, binP, intP, indexAddrP, elemsOf, readCells, lenP, lenAt, resultsP, resultP, oneOr, reduceCtorEq, reduceIte, Nat.reduceEqDiff, Nat.reduceAdd, Nat.zero_add, Nat.reduceMul, Nat.reduceLT, Nat.reduceLeDiff, Int.reduceLT, Int.reduceNeg, Int.reduceLE, appendP, appendAt, letGo, setLoc, locVal, Int.reduceToNat, boxCells, und, TG, SE, SC, unP, htu, VLf, extP, loadR, loadP, storeR, storeK, storeCellsP, laid, lay, setBox, nchP, callAl, List.set_cons_zero, List.set_cons_succ, List.getElem?_cons_zero, List.getElem?_cons_succ, Option.map_some, Nat.le_refl, List.take_succ_cons, List.take_zero, List.drop_nil, List.filter_nil, List.cons_append, Int.reduceBEq, Int.reduceBNe, Int.reduceGT, Int.reduceGE, Int.reduceLE, Bool.not_true, Bool.not_false, i1, i2, hck, e0p, her, b0, b1]
      exact ⟨_, _, rfl⟩
    · have c0p : (ck != 0) = true := by simpa using c0
      unfold vlV zb RdW at *
      obtain ⟨ev, eo, so, co, ⟨hev, hco⟩, R⟩ := RULES CC; rw [← hev]
      rw [← hco] at i1 i2 hck hfa her
      simp only [fpart, part', Tryd.f31, Option.getD]
      simp (maxSteps := 5000000) only [SA, SB, SD, R, guardAt, binP, intP, indexAddrP, elemsOf, readCells, lenP, lenAt, resultsP, resultP, oneOr, reduceCtorEq, reduceIte, Nat.reduceEqDiff, Nat.reduceAdd, Nat.zero_add, Nat.reduceMul, Nat.reduceLT, Nat.reduceLeDiff, Int.reduceLT, Int.reduceNeg, Int.reduceLE, appendP, appendAt, letGo, setLoc, locVal, Int.reduceToNat, boxCells, und, TG, SE, SC, unP, htu, VLf, extP, loadR, loadP, storeR, storeK, storeCellsP, laid, lay, setBox, nchP, callAl, List.set_cons_zero, List.set_cons_succ, List.getElem?_cons_zero, List.getElem?_cons_succ, Option.map_some, Nat.le_refl, List.take_succ_cons, List.take_zero, List.drop_nil, List.filter_nil, List.cons_append, Int.reduceBEq, Int.reduceBNe, Int.reduceGT, Int.reduceGE, Int.reduceLE, Bool.not_true, Bool.not_false, i1, i2, hck, c0p, hfa, e0p, her, b0, b1]
      exact ⟨_, _, rfl⟩
theorem w_Take_o (l : List UInt8) (hl : l.length ≤ 900000) (k : Int) (hk : k ≠ 1 ∧ k ≠ 2 ∧ k ≠ 3 ∧ k ≠ 4) (l1 : List UInt8) (e1 : Int) (hr : rdI l 0 = (k, l1, e1)) : ∃ X Y, callL CC 31 [.bp 1 0] [zb, RdW l 0] = some (.ret (vlV (tkF ((k, (0 : Int), ([] : List UInt8)), l1, e1))), [zb, RdW (((k, (0 : Int), ([] : List UInt8)), l1, e1)).2.1 (tkE ((k, (0 : Int), ([] : List UInt8)), l1, e1)), X, Y]) := by
  rw [callL_enter (fn := Tryd.f31) (c := Tryd.f31.body.getD .skip) rfl rfl fat_value_Take rfl ok_value_Take (Nat.le_of_ble_eq_true rfl)]
  obtain ⟨tu, htu⟩ := VLs
  have b0 := buildVl0
  have b1 := buildVl1 k
  have k1 : (k == 1) = false := by simpa using hk.1
  have k2 : (k == 2) = false := by simpa using hk.2.1
  have k3 : (k == 3) = false := by simpa using hk.2.2.1
  have k4 : (k == 4) = false := by simpa using hk.2.2.2
  have i1 := op_w_RInt [zb, RdW l 0, zb] 1 l 0 hl rfl
  rw [hr] at i1
  simp only [List.set_cons_succ, List.set_cons_zero] at i1
  have hck := op_value_Check (k, 0, [])
  have her := op_w_Err [zb, RdW l1 e1, zb, PBox.cells 26 [.int .i64 k, .int .i64 0, .str []]] 1 l1 e1 rfl
  have hfa := op_w_Fail [zb, RdW l1 e1, zb, PBox.cells 26 [.int .i64 k, .int .i64 0, .str []]] 1 l1 e1 4 rfl
  have hf4 := op_w_Err [zb, RdW l1 4, zb, PBox.cells 26 [.int .i64 k, .int .i64 0, .str []]] 1 l1 4 rfl
  simp only [List.set_cons_succ, List.set_cons_zero] at hfa
  unfold tkF tkE
  simp only
  generalize ckV (k, 0, []) = ck at *
  by_cases e0 : e1 = 0
  · rw [if_pos e0] at hfa
    subst e0
    by_cases c0 : ck = 0
    · have c0p : (ck != 0) = false := by simp [c0]
      subst c0
      simp only [ne_eq, not_true_eq_false, if_false]
      unfold vlV zb RdW at *
      obtain ⟨ev, eo, so, co, ⟨hev, hco⟩, R⟩ := RULES CC; rw [← hev]
      rw [← hco] at i1 hck her
      simp only [fpart, part', Tryd.f31, Option.getD]
      simp (maxSteps := 5000000) only [SA, SB, SD, R, guardAt, binP, intP, indexAddrP, elemsOf, readCells, lenP, lenAt, resultsP, resultP, oneOr, reduceCtorEq, reduceIte, Nat.reduceEqDiff, Nat.reduceAdd, Nat.zero_add, Nat.reduceMul, Nat.reduceLT, Nat.reduceLeDiff, Int.reduceLT, Int.reduceNeg, Int.reduceLE, appendP, appendAt, letGo, setLoc, locVal, Int.reduceToNat, boxCells, und, TG, SE, SC, unP, htu, VLf, extP, loadR, loadP, storeR, storeK, storeCellsP, laid, lay, setBox, nchP, callAl, List.set_cons_zero, List.set_cons_succ, List.getElem?_cons_zero, List.getElem?_cons_succ, Option.map_some, Nat.le_refl, List.take_succ_cons, List.take_zero, List.drop_nil, List.filter_nil, List.cons_append, Int.reduceBEq, Int.reduceBNe, Int.reduceGT, Int.reduceGE, Int.reduceLE, Bool.not_true, Bool.not_false, i1, k1, k2, k3, k4, hck, her, b0, b1]
      exact ⟨_, _, rfl⟩
    · have c0p : (ck != 0) = true := by simpa using c0
      have ht : (if (0 : Int) ≠ 0 then (0 : Int) else if ck ≠ 0 then 4 else 0) = 4 := by rw [if_neg (fun h => h rfl), if_pos c0]
      rw [ht, if_pos (by decide)]
      unfold vlV zb RdW at *
      obtain ⟨ev, eo, so, co, ⟨hev, hco⟩, R⟩ := RULES CC; rw [← hev]
      rw [← hco] at i1 hck hfa hf4
      simp only [fpart, part', Tryd.f31, Option.getD]
      simp (maxSteps := 5000000) only [SA, SB, SD, R, guardAt, binP, intP, indexAddrP, elemsOf, readCells, lenP, lenAt, resultsP, resultP, oneOr, reduceCtorEq, reduceIte, Nat.reduceEqDiff, Nat.reduceAdd, Nat.zero_add, Nat.reduceMul, Nat.reduceLT, Nat.reduceLeDiff, Int.reduceLT, Int.reduceNeg, Int.reduceLE, appendP, appendAt, letGo, setLoc, locVal, Int.reduceToNat, boxCells, und, TG, SE, SC, unP, htu, VLf, extP, loadR, loadP, storeR, storeK, storeCellsP, laid, lay, setBox, nchP, callAl, List.set_cons_zero, List.set_cons_succ, List.getElem?_cons_zero, List.getElem?_cons_succ, Option.map_some, Nat.le_refl, List.take_succ_cons, List.take_zero, List.drop_nil, List.filter_nil, List.cons_append, Int.reduceBEq, Int.reduceBNe, Int.reduceGT, Int.reduceGE, Int.reduceLE, Bool.not_true, Bool.not_false, i1, k1, k2, k3, k4, hck, c0p, hfa, hf4, b0, b1]
      exact ⟨_, _, rfl⟩
  · have e0p : (e1 != 0) = true := by simpa using e0
    have e0q : (e1 == 0) = false := by simpa using e0
    rw [if_neg e0] at hfa
    rw [if_pos e0, if_pos e0]
    by_cases c0 : ck = 0
    · have c0p : (ck != 0) = false := by simp [c0]
      subst c0
      unfold vlV zb RdW at *
      obtain ⟨ev, eo, so, co, ⟨hev, hco⟩, R⟩ := RULES CC; rw [← hev]
      rw [← hco] at i1 hck her
      simp only [fpart, part', Tryd.f31, Option.getD]
      simp (maxSteps := 5000000) only [SA, SB, SD, R, guardAt, binP, intP, indexAddrP, elemsOf, readCells, lenP, lenAt, resultsP, resultP, oneOr, reduceCtorEq, reduceIte, Nat.reduceEqDiff, Nat.reduceAdd, Nat.zero_add, Nat.reduceMul, Nat.reduceLT, Nat.reduceLeDiff, Int.reduceLT, Int.reduceNeg, Int.reduceLE, appendP, appendAt, letGo, setLoc, locVal, Int.reduceToNat, boxCells, und, TG, SE, SC, unP, htu, VLf, extP, loadR, loadP, storeR, storeK, storeCellsP, laid, lay, setBox, nchP, callAl, List.set_cons_zero, List.set_cons_succ, List.getElem?_cons_zero, List.getElem?_cons_succ, Option.map_some, Nat.le_refl, List.take_succ_cons, List.take_zero, List.drop_nil, List.filter_nil, List.cons_append, Int.reduceBEq, Int.reduceBNe, Int.reduceGT, Int.reduceGE, Int.reduceLE, Bool.not_true, Bool.not_false, i1, k1, k2, k3, k4, hck, e0p, her, b0, b1]
      exact ⟨_, _, rfl⟩
    · have c0p : (ck != 0) = true := by simpa using c0
      unfold vlV zb RdW at *
      obtain ⟨ev, eo, so, co, ⟨hev, hco⟩, R⟩ := RULES CC; rw [← hev]
      rw [← hco] at i1 hck hfa her
      simp only [fpart, part', Tryd.f31, Option.getD]
      simp (maxSteps := 5000000) only [SA, SB, SD, R, guardAt, binP, intP, indexAddrP, elemsOf, readCells, lenP, lenAt, resultsP, resultP, oneOr, reduceCtorEq, reduceIte, Nat.reduceEqDiff, Nat.reduceAdd, Nat.zero_add, Nat.reduceMul, Nat.reduceLT, Nat.reduceLeDiff, Int.reduceLT, Int.reduceNeg, Int.reduceLE, appendP, appendAt, letGo, setLoc, locVal, Int.reduceToNat, boxCells, und, TG, SE, SC, unP, htu, VLf, extP, loadR, loadP, storeR, storeK, storeCellsP, laid, lay, setBox, nchP, callAl, List.set_cons_zero, List.set_cons_succ, List.getElem?_cons_zero, List.getElem?_cons_succ, Option.map_some, Nat.le_refl, List.take_succ_cons, List.take_zero, List.drop_nil, List.filter_nil, List.cons_append, Int.reduceBEq, Int.reduceBNe, Int.reduceGT, Int.reduceGE, Int.reduceLE, Bool.not_true, Bool.not_false, i1, k1, k2, k3, k4, hck, c0p, hfa, e0p, her, b0, b1]
      exact ⟨_, _, rfl⟩
theorem call_w_Take (l : List UInt8) (hl : l.length ≤ 900000) : ∃ X Y, callL CC 31 [.bp 1 0] [zb, RdW l 0] = some (.ret (vlV (tkF (tkA l))), [zb, RdW ((tkA l)).2.1 (tkE (tkA l)), X, Y]) := by
  unfold tkA
  rcases hr : rdI l 0 with ⟨k, l1, e1⟩
  simp only
  by_cases k1 : k = 1
  · subst k1
    rw [if_pos (.inl rfl)]
    rcases hr2 : rdI l1 e1 with ⟨n, l2, e2⟩
    exact w_Take_1 l hl l1 e1 hr n l2 e2 hr2 (by have := rdI_len l 0; rw [hr] at this; simp only at this; omega)
  by_cases k2 : k = 2
  · subst k2
    rw [if_pos (.inr (.inl rfl))]
    rcases hr2 : rdI l1 e1 with ⟨n, l2, e2⟩
    exact w_Take_2 l hl l1 e1 hr n l2 e2 hr2 (by have := rdI_len l 0; rw [hr] at this; simp only at this; omega)
  by_cases k3 : k = 3
  · subst k3
    rw [if_pos (.inr (.inr rfl))]
    rcases hr2 : rdI l1 e1 with ⟨n, l2, e2⟩
    exact w_Take_3 l hl l1 e1 hr n l2 e2 hr2 (by have := rdI_len l 0; rw [hr] at this; simp only at this; omega)
  rw [if_neg (by omega)]
  by_cases k4 : k = 4
  · subst k4
    rw [if_pos rfl]
    rcases hr2 : rdT l1 e1 with ⟨s, l2, e2⟩
    exact w_Take_4 l hl l1 e1 hr s l2 e2 hr2 (by have := rdI_len l 0; rw [hr] at this; simp only at this; omega)
  rw [if_neg k4]
  exact w_Take_o l hl k ⟨k1, k2, k3, k4⟩ l1 e1 hr
theorem op_w_Take (l : List UInt8) (hl : l.length ≤ 900000) : callOp CC (callL CC) 31 [.bp 1 0] [zb, RdW l 0] = some (.ret (vlV (tkF (tkA l))), [zb, RdW (tkA l).2.1 (tkE (tkA l))]) := by
  obtain ⟨X, Y, h⟩ := call_w_Take l hl
  unfold callOp
  rw [if_pos (by rfl), h]
  rfl
theorem r_Take_1 (S l : List UInt8) (hx : Sfx S l) (l1 : List UInt8) (e1 : Int) (hr : rdI l 0 = (1, l1, e1)) (n : Int) (l2 : List UInt8) (e2 : Int) (hr2 : rdI l1 e1 = (n, l2, e2)) (h1 : Sfx S l1) : ∃ X Y, callL CC 45 [.bp 1 0] [zb, RdR S l 0] = some (.ret (vlV (tkF (((1 : Int), n, ([] : List UInt8)), l2, e2))), [zb, RdR S ((((1 : Int), n, ([] : List UInt8)), l2, e2)).2.1 (tkE (((1 : Int), n, ([] : List UInt8)), l2, e2)), X, Y]) := by
  rw [callL_enter (fn := Tryd.f45) (c := Tryd.f45.body.getD .skip) rfl rfl fat_R20_Take rfl ok_R20_Take (Nat.le_of_ble_eq_true rfl)]
  obtain ⟨tu, htu⟩ := VLs
  have b0 := buildVl0
  have b1 := buildVl1 1
  have i1 := op_r_Int [zb, RdR S l 0, zb] 1 S l 0 hx rfl
  rw [hr] at i1
  simp only [List.set_cons_succ, List.set_cons_zero] at i1
  have i2 := op_r_Int [zb, RdR S l1 e1, zb, PBox.cells 26 [.int .i64 1, .int .i64 0, .str []]] 1 S l1 e1 h1 rfl
  rw [hr2] at i2
  simp only [List.set_cons_succ, List.set_cons_zero] at i2
  have hck := op_R20_Check (1, n, [])
  have her := op_r_Err [zb, RdR S l2 e2, zb, PBox.cells 26 [.int .i64 1, .int .i64 n, .str []]] 1 S l2 e2 rfl
  have hfa := op_r_Fail [zb, RdR S l2 e2, zb, PBox.cells 26 [.int .i64 1, .int .i64 n, .str []]] 1 S l2 e2 4 rfl
  have hf4 := op_r_Err [zb, RdR S l2 4, zb, PBox.cells 26 [.int .i64 1, .int .i64 n, .str []]] 1 S l2 4 rfl
  simp only [List.set_cons_succ, List.set_cons_zero] at hfa
  unfold tkF tkE
  simp only
  generalize ckV (1, n, []) = ck at *
  by_cases e0 : e2 = 0
  · rw [if_pos e0] at hfa
    subst e0
    by_cases c0 : ck = 0
    · have c0p : (ck != 0) = false := by simp [c0]
      subst c0
      simp only [ne_eq, not_true_eq_false, if_false]
      unfold vlV zb RdR at *
      obtain ⟨ev, eo, so, co, ⟨hev, hco⟩, R⟩ := RULES CC; rw [← hev]
      rw [← hco] at i1 i2 hck her
      simp only [fpart, part', Tryd.f45, Option.getD]
      simp (maxSteps := 5000000) only [SA, SB, SD, R, guardAt, binP, intP, indexAddrP, elemsOf, readCells, lenP, lenAt, resultsP, resultP, oneOr, reduceCtorEq, reduceIte, Nat.reduceEqDiff, Nat.reduceAdd, Nat.zero_add, Nat.reduceMul, Nat.reduceLT, Nat.reduceLeDiff, Int.reduceLT, Int.reduceNeg, Int.reduceLE, appendP, appendAt, letGo, setLoc, locVal, Int.reduceToNat, boxCells, und, TG, SE, SC, unP, htu, VLf, extP, loadR, loadP, storeR, storeK, storeCellsP, laid, lay, setBox, nchP, callAl, List.set_cons_zero, List.set_cons_succ, List.getElem?_cons_zero, List.getElem?_cons_succ, Option.map_some, Nat.le_refl, List.take_succ_cons, List.take_zero, List.drop_nil, List.filter_nil, List.cons_append, Int.reduceBEq, Int.reduceBNe, Int.reduceGT, Int.reduceGE, Int.reduceLE, Bool.not_true, Bool.not_false, i1, i2, hck, her, b0, b1]
      exact ⟨_, _, rfl⟩
    · have c0p : (ck != 0) = true := by simpa using c0
      have ht : (if (0 : Int) ≠ 0 then (0 : Int) else if ck ≠ 0 then 4 else 0) = 4 := by rw [if_neg (fun h => h rfl), if_pos c0]
      rw [ht, if_pos (by decide)]
      unfold vlV zb RdR at *
      obtain ⟨ev, eo, so, co, ⟨hev, hco⟩, R⟩ := RULES CC; rw [← hev]
      rw [← hco] at i1 i2 hck hfa hf4 her
      simp only [fpart, part', Tryd.f45, Option.getD]
      simp (maxSteps := 5000000) only [SA, SB, SD, R, guardAt, binP, intP, indexAddrP, elemsOf, readCells, lenP, lenAt, resultsP, resultP, oneOr, reduceCtorEq, reduceIte, Nat.reduceEqDiff, Nat.reduceAdd, Nat.zero_add, Nat.reduceMul, Nat.reduceLT, Nat.reduceLeDiff, Int.reduceLT, Int.reduceNeg, Int.reduceLE, appendP, appendAt, letGo, setLoc, locVal, Int.reduceToNat, boxCells, und, TG, SE, SC, unP, htu, VLf, extP, loadR, loadP, storeR, storeK, storeCellsP, laid, lay, setBox, nchP, callAl, List.set_cons_zero, List.set_cons_succ, List.getElem?_cons_zero, List.getElem?_cons_succ, Option.map_some, Nat.le_refl, List.take_succ_cons, List.take_zero, List.drop_nil, List.filter_nil, List.cons_append, Int.reduceBEq, Int.reduceBNe, Int.reduceGT, Int.reduceGE, Int.reduceLE, Bool.not_true, Bool.not_false, i1, i2, hck, c0p, hfa, hf4, her, b0, b1]
      exact ⟨_, _, rfl⟩
  · have e0p : (e2 != 0) = true := by simpa using e0
    have e0q : (e2 == 0) = false := by simpa using e0
    rw [if_neg e0] at hfa
    rw [if_pos e0, if_pos e0]
    unfold vlV zb RdR at *
    obtain ⟨ev, eo, so, co, ⟨hev, hco⟩, R⟩ := RULES CC; rw [← hev]
    rw [← hco] at i1 i2 her
    simp only [fpart, part', Tryd.f45, Option.getD]
    simp (maxSteps := 5000000) only [SA, SB, SD, R, guardAt, binP, intP, indexAddrP, elemsOf, readCells, lenP, lenAt, resultsP, resultP, oneOr, reduceCtorEq, reduceIte, Nat.reduceEqDiff, Nat.reduceAdd, Nat.zero_add, Nat.reduceMul, Nat.reduceLT, Nat.reduceLeDiff, Int.reduceLT, Int.reduceNeg, Int.reduceLE, appendP, appendAt, letGo, setLoc, locVal, Int.reduceToNat, boxCells, und, TG, SE, SC, unP, htu, VLf, extP, loadR, loadP, storeR, storeK, storeCellsP, laid, lay, setBox, nchP, callAl, List.set_cons_zero, List.set_cons_succ, List.getElem?_cons_zero, List.getElem?_cons_succ, Option.map_some, Nat.le_refl, List.take_succ_cons, List.take_zero, List.drop_nil, List.filter_nil, List.cons_append, Int.reduceBEq, Int.reduceBNe, Int.reduceGT, Int.reduceGE, Int.reduceLE, Bool.not_true, Bool.not_false, i1, i2, e0p, e0q, her, b0, b1]
    exact ⟨_, _, rfl⟩
theorem r_Take_2 (S l : List UInt8) (hx : Sfx S l) (l1 : List UInt8) (e1 : Int) (hr : rdI l 0 = (2, l1, e1)) (n : Int) (l2 : List UInt8) (e2 : Int) (hr2 : rdI l1 e1 = (n, l2, e2)) (h1 : Sfx S l1) : ∃ X Y, callL CC 45 [.bp 1 0] [zb, RdR S l 0] = some (.ret (vlV (tkF (((2 : Int), n, ([] : List UInt8)), l2, e2))), [zb, RdR S ((((2 : Int), n, ([] : List UInt8)), l2, e2)).2.1 (tkE (((2 : Int), n, ([] : List UInt8)), l2, e2)), X, Y]) := by
  rw [callL_enter (fn := Tryd.f45) (c := Tryd.f45.body.getD .skip) rfl rfl fat_R20_Take rfl ok_R20_Take (Nat.le_of_ble_eq_true rfl)]
  obtain ⟨tu, htu⟩ := VLs
  have b0 := buildVl0
  have b1 := buildVl1 2
  have i1 := op_r_Int [zb, RdR S l 0, zb] 1 S l 0 hx rfl
  rw [hr] at i1
  simp only [List.set_cons_succ, List.set_cons_zero] at i1
  have i2 := op_r_Int [zb, RdR S l1 e1, zb, PBox.cells 26 [.int .i64 2, .int .i64 0, .str []]] 1 S l1 e1 h1 rfl
  rw [hr2] at i2
  simp only [List.set_cons_succ, List.set_cons_zero] at i2
  have hck := op_R20_Check (2, n, [])
  have her := op_r_Err [zb, RdR S l2 e2, zb, PBox.cells 26 [.int .i64 2, .int .i64 n, .str []]] 1 S l2 e2 rfl
  have hfa := op_r_Fail [zb, RdR S l2 e2, zb, PBox.cells 26 [.int .i64 2, .int .i64 n, .str []]] 1 S l2 e2 4 rfl
  have hf4 := op_r_Err [zb, RdR S l2 4, zb, PBox.cells 26 [.int .i64 2, .int .i64 n, .str []]] 1 S l2 4 rfl
  simp only [List.set_cons_succ, List.set_cons_zero] at hfa
  unfold tkF tkE
  simp only
  generalize ckV (2, n, []) = ck at *
  by_cases e0 : e2 = 0
  · rw [if_pos e0] at hfa
    subst e0
    by_cases c0 : ck = 0
    · have c0p : (ck != 0) = false := by simp [c0]
      subst c0
      simp only [ne_eq, not_true_eq_false, if_false]
      unfold vlV zb RdR at *
      obtain ⟨ev, eo, so, co, ⟨hev, hco⟩, R⟩ := RULES CC; rw [← hev]
      rw [← hco] at i1 i2 hck her
      simp only [fpart, part', Tryd.f45, Option.getD]
      simp (maxSteps := 5000000) only [SA, SB, SD, R, guardAt, binP, intP, indexAddrP, elemsOf, readCells, lenP, lenAt, resultsP, resultP, oneOr, reduceCtorEq, reduceIte, Nat.reduceEqDiff, Nat.reduceAdd, Nat.zero_add, Nat.reduceMul, Nat.reduceLT, Nat.reduceLeDiff, Int.reduceLT, Int.reduceNeg, Int.reduceLE, appendP, appendAt, letGo, setLoc, locVal, Int.reduceToNat, boxCells, und, TG, SE, SC, unP, htu, VLf, extP, loadR, loadP, storeR, storeK, storeCellsP, laid, lay, setBox, nchP, callAl, List.set_cons_zero, List.set_cons_succ, List.getElem?_cons_zero, List.getElem?_cons_succ, Option.map_some, Nat.le_refl, List.take_succ_cons, List.take_zero, List.drop_nil, List.filter_nil, List.cons_append, Int.reduceBEq, Int.reduceBNe, Int.reduceGT, Int.reduceGE, Int.reduceLE, Bool.not_true, Bool.not_false, i1, i2, hck, her, b0, b1]
      exact ⟨_, _, rfl⟩
    · have c0p : (ck != 0) = true := by simpa using c0
      have ht : (if (0 : Int) ≠ 0 then (0 : Int) else if ck ≠ 0 then 4 else 0) = 4 := by rw [if_neg (fun h => h rfl), if_pos c0]
      rw [ht, if_pos (by decide)]
      unfold vlV zb RdR at *
      obtain ⟨ev, eo, so, co, ⟨hev, hco⟩, R⟩ := RULES CC; rw [← hev]
      rw [← hco] at i1 i2 hck hfa hf4 her
      simp only [fpart, part', Tryd.f45, Option.getD]
      simp (maxSteps := 5000000) only [SA, SB, SD, R, guardAt, binP, intP, indexAddrP, elemsOf, readCells, lenP, lenAt, resultsP, resultP, oneOr, reduceCtorEq, reduceIte, Nat.reduceEqDiff, Nat.reduceAdd, Nat.zero_add, Nat.reduceMul, Nat.reduceLT, Nat.reduceLeDiff, Int.reduceLT, Int.reduceNeg, Int.reduceLE, appendP, appendAt, letGo, setLoc, locVal, Int.reduceToNat, boxCells, und, TG, SE, SC, unP, htu, VLf, extP, loadR, loadP, storeR, storeK, storeCellsP, laid, lay, setBox, nchP, callAl, List.set_cons_zero, List.set_cons_succ, List.getElem?_cons_zero, List.getElem?_cons_succ, Option.map_some, Nat.le_refl, List.take_succ_cons, List.take_zero, List.drop_nil, List.filter_nil, List.cons_append, Int.reduceBEq, Int.reduceBNe, Int.reduceGT, Int.reduceGE, Int.reduceLE, Bool.not_true, Bool.not_false, i1, i2, hck, c0p, hfa, hf4, her, b0, b1]
      exact ⟨_, _, rfl⟩
  · have e0p : (e2 != 0) = true := by simpa using e0
    have e0q : (e2 == 0) = false := by simpa using e0
    rw [if_neg e0] at hfa
    rw [if_pos e0, if_pos e0]
    unfold vlV zb RdR at *
    obtain ⟨ev, eo, so, co, ⟨hev, hco⟩, R⟩ := RULES CC; rw [← hev]
    rw [← hco] at i1 i2 her
    simp only [fpart, part', Tryd.f45, Option.getD]
    simp (maxSteps := 5000000) only [SA, SB, SD, R, guardAt, binP, intP, indexAddrP, elemsOf, readCells, lenP, lenAt, resultsP, resultP, oneOr, reduceCtorEq, reduceIte, Nat.reduceEqDiff, Nat.reduceAdd, Nat.zero_add, Nat.reduceMul, Nat.reduceLT, Nat.reduceLeDiff, Int.reduceLT, Int.reduceNeg, Int.reduceLE, appendP, appendAt, letGo, setLoc, locVal, Int.reduceToNat, boxCells, und, TG, SE, SC, unP, htu, VLf, extP, loadR, loadP, storeR, storeK, storeCellsP, laid, lay, setBox, nchP, callAl, List.set_cons_zero, List.set_cons_succ, List.getElem?_cons_zero, List.getElem?_cons_succ, Option.map_some, Nat.le_refl, List.take_succ_cons, List.take_zero, List.drop_nil, List.filter_nil, List.cons_append, Int.reduceBEq, Int.reduceBNe, Int.reduceGT, Int.reduceGE, Int.reduceLE, Bool.not_true, Bool.not_false, i1, i2, e0p, e0q, her, b0, b1]
    exact ⟨_, _, rfl⟩
theorem r_Take_3 (S l : List UInt8) (hx : Sfx S l) (l1 : List UInt8) (e1 : Int) (hr : rdI l 0 = (3, l1, e1)) (n : Int) (l2 : List UInt8) (e2 : Int) (hr2 : rdI l1 e1 = (n, l2, e2)) (h1 : Sfx S l1) : ∃ X Y, callL CC 45 [.bp 1 0] [zb, RdR S l 0] = some (.ret (vlV (tkF (((3 : Int), n, ([] : List UInt8)), l2, e2))), [zb, RdR S ((((3 : Int), n, ([] : List UInt8)), l2, e2)).2.1 (tkE (((3 : Int), n, ([] : List UInt8)), l2, e2)), X, Y]) := by
  rw [callL_enter (fn := Tryd.f45) (c := Tryd.f45.body.getD .skip) rfl rfl fat_R20_Take rfl ok_R20_Take (Nat.le_of_ble_eq_true rfl)]
  obtain ⟨tu, htu⟩ := VLs
  have b0 := buildVl0
  have b1 := buildVl1 3
  have i1 := op_r_Int [zb, RdR S l 0, zb] 1 S l 0 hx rfl
  rw [hr] at i1
  simp only [List.set_cons_succ, List.set_cons_zero] at i1
  have i2 := op_r_Int [zb, RdR S l1 e1, zb, PBox.cells 26 [.int .i64 3, .int .i64 0, .str []]] 1 S l1 e1 h1 rfl
  rw [hr2] at i2
  simp only [List.set_cons_succ, List.set_cons_zero] at i2
  have hck := op_R20_Check (3, n, [])
  have her := op_r_Err [zb, RdR S l2 e2, zb, PBox.cells 26 [.int .i64 3, .int .i64 n, .str []]] 1 S l2 e2 rfl
  have hfa := op_r_Fail [zb, RdR S l2 e2, zb, PBox.cells 26 [.int .i64 3, .int .i64 n, .str []]] 1 S l2 e2 4 rfl
  have hf4 := op_r_Err [zb, RdR S l2 4, zb, PBox.cells 26 [.int .i64 3, .int .i64 n, .str []]] 1 S l2 4 rfl
  simp only [List.set_cons_succ, List.set_cons_zero] at hfa
  unfold tkF tkE
  simp only
  generalize ckV (3, n, []) = ck at *
  by_cases e0 : e2 = 0
  · rw [if_pos e0] at hfa
    subst e0
    by_cases c0 : ck = 0
    · have c0p : (ck != 0) = false := by simp [c0]
      subst c0
      simp only [ne_eq, not_true_eq_false, if_false]
      unfold vlV zb RdR at *
      obtain ⟨ev, eo, so, co, ⟨hev, hco⟩, R⟩ := RULES CC; rw [← hev]
      rw [← hco] at i1 i2 hck her
      simp only [fpart, part', Tryd.f45, Option.getD]
      simp (maxSteps := 5000000) only [SA, SB, SD, R, guardAt, binP, intP, indexAddrP, elemsOf, readCells, lenP, lenAt, resultsP, resultP, oneOr, reduceCtorEq, reduceIte, Nat.reduceEqDiff, Nat.reduceAdd, Nat.zero_add, Nat.reduceMul, Nat.reduceLT, Nat.reduceLeDiff, Int.reduceLT, Int.reduceNeg, Int.reduceLE, appendP, appendAt, letGo, setLoc, locVal, Int.reduceToNat, boxCells, und, TG, SE, SC, unP, htu, VLf, extP, loadR, loadP, storeR, storeK, storeCellsP, laid, lay, setBox, nchP, callAl, List.set_cons_zero, List.set_cons_succ, List.getElem?_cons_zero, List.getElem?_cons_succ, Option.map_some, Nat.le_refl, List.take_succ_cons, List.take_zero, List.drop_nil, List.filter_nil, List.cons_append, Int.reduceBEq, Int.reduceBNe, Int.reduceGT, Int.reduceGE, Int.reduceLE, Bool.not_true, Bool.not_false, i1, i2, hck, her, b0, b1]
      exact ⟨_, _, rfl⟩
    · have c0p : (ck != 0) = true := by simpa using c0
      have ht : (if (0 : Int) ≠ 0 then (0 : Int) else if ck ≠ 0 then 4 else 0) = 4 := by rw [if_neg (fun h => h rfl), if_pos c0]
      rw [ht, if_pos (by decide)]
      unfold vlV zb RdR at *
      obtain ⟨ev, eo, so, co, ⟨hev, hco⟩, R⟩ := RULES CC; rw [← hev]
      rw [← hco] at i1 i2 hck hfa hf4 her
      simp only [fpart, part', Tryd.f45, Option.getD]
      simp (maxSteps := 5000000) only [SA, SB, SD, R, guardAt, binP, intP, indexAddrP, elemsOf, readCells, lenP, lenAt, resultsP, resultP, oneOr, reduceCtorEq, reduceIte, Nat.reduceEqDiff, Nat.reduceAdd, Nat.zero_add, Nat.reduceMul, Nat.reduceLT, Nat.reduceLeDiff, Int.reduceLT, Int.reduceNeg, Int.reduceLE, appendP, appendAt, letGo, setLoc, locVal, Int.reduceToNat, boxCells, und, TG, SE, SC, unP, htu, VLf, extP, loadR, loadP, storeR, storeK, storeCellsP, laid, lay, setBox, nchP, callAl, List.set_cons_zero, List.set_cons_succ, List.getElem?_cons_zero, List.getElem?_cons_succ, Option.map_some, Nat.le_refl, List.take_succ_cons, List.take_zero, List.drop_nil, List.filter_nil, List.cons_append, Int.reduceBEq, Int.reduceBNe, Int.reduceGT, Int.reduceGE, Int.reduceLE, Bool.not_true, Bool.not_false, i1, i2, hck, c0p, hfa, hf4, her, b0, b1]
      exact ⟨_, _, rfl⟩
  · have e0p : (e2 != 0) = true := by simpa using e0
    have e0q : (e2 == 0) = false := by simpa using e0
    rw [if_neg e0] at hfa
    rw [if_pos e0, if_pos e0]
    unfold vlV zb RdR at *
    obtain ⟨ev, eo, so, co, ⟨hev, hco⟩, R⟩ := RULES CC; rw [← hev]
    rw [← hco] at i1 i2 her
    simp only [fpart, part', Tryd.f45, Option.getD]
    simp (maxSteps := 5000000) only [SA, SB, SD, R, guardAt, binP, intP, indexAddrP, elemsOf, readCells, lenP, lenAt, resultsP, resultP, oneOr, reduceCtorEq, reduceIte, Nat.reduceEqDiff, Nat.reduceAdd, Nat.zero_add, Nat.reduceMul, Nat.reduceLT, Nat.reduceLeDiff, Int.reduceLT, Int.reduceNeg, Int.reduceLE, appendP, appendAt, letGo, setLoc, locVal, Int.reduceToNat, boxCells, und, TG, SE, SC, unP, htu, VLf, extP, loadR, loadP, storeR, storeK, storeCellsP, laid, lay, setBox, nchP, callAl, List.set_cons_zero, List.set_cons_succ, List.getElem?_cons_zero, List.getElem?_cons_succ, Option.map_some, Nat.le_refl, List.take_succ_cons, List.take_zero, List.drop_nil, List.filter_nil, List.cons_append, Int.reduceBEq, Int.reduceBNe, Int.reduceGT, Int.reduceGE, Int.reduceLE, Bool.not_true, Bool.not_false, i1, i2, e0p, e0q, her, b0, b1]
    exact ⟨_, _, rfl⟩
theorem r_Take_4 (S l : List UInt8) (hx : Sfx S l) (l1 : List UInt8) (e1 : Int) (hr : rdI l 0 = (4, l1, e1)) (s : List UInt8) (l2 : List UInt8) (e2 : Int) (hr2 : rdT l1 e1 = (s, l2, e2)) (h1 : Sfx S l1) : ∃ X Y, callL CC 45 [.bp 1 0] [zb, RdR S l 0] = some (.ret (vlV (tkF (((4 : Int), (0 : Int), s), l2, e2))), [zb, RdR S ((((4 : Int), (0 : Int), s), l2, e2)).2.1 (tkE (((4 : Int), (0 : Int), s), l2, e2)), X, Y]) := by
  rw [callL_enter (fn := Tryd.f45) (c := Tryd.f45.body.getD .skip) rfl rfl fat_R20_Take rfl ok_R20_Take (Nat.le_of_ble_eq_true rfl)]
  obtain ⟨tu, htu⟩ := VLs
  have b0 := buildVl0
  have b1 := buildVl1 4
  have i1 := op_r_Int [zb, RdR S l 0, zb] 1 S l 0 hx rfl
  rw [hr] at i1
  simp only [List.set_cons_succ, List.set_cons_zero] at i1
  have i2 := op_r_Text [zb, RdR S l1 e1, zb, PBox.cells 26 [.int .i64 4, .int .i64 0, .str []]] 1 S l1 e1 h1 rfl
  rw [hr2] at i2
  simp only [List.set_cons_succ, List.set_cons_zero] at i2
  have hck := op_R20_Check (4, 0, s)
  have her := op_r_Err [zb, RdR S l2 e2, zb, PBox.cells 26 [.int .i64 4, .int .i64 0, .str s]] 1 S l2 e2 rfl
  have hfa := op_r_Fail [zb, RdR S l2 e2, zb, PBox.cells 26 [.int .i64 4, .int .i64 0, .str s]] 1 S l2 e2 4 rfl
  have hf4 := op_r_Err [zb, RdR S l2 4, zb, PBox.cells 26 [.int .i64 4, .int .i64 0, .str s]] 1 S l2 4 rfl
  simp only [List.set_cons_succ, List.set_cons_zero] at hfa
  unfold tkF tkE
  simp only
  generalize ckV (4, 0, s) = ck at *
  by_cases e0 : e2 = 0
  · rw [if_pos e0] at hfa
    subst e0
    by_cases c0 : ck = 0
    · have c0p : (ck != 0) = false := by simp [c0]
      subst c0
      simp only [ne_eq, not_true_eq_false, if_false]
      unfold vlV zb RdR at *
      obtain ⟨ev, eo, so, co, ⟨hev, hco⟩, R⟩ := RULES CC; rw [← hev]
      rw [← hco] at i1 i2 hck her
      simp only [fpart, part', Tryd.f45, Option.getD]
      simp (maxSteps := 5000000) only [SA, SB, SD, R, guardAt, binP, intP, indexAddrP, elemsOf, readCells, lenP, lenAt, resultsP, resultP, oneOr, reduceCtorEq, reduceIte, Nat.reduceEqDiff, Nat.reduceAdd, Nat.zero_add, Nat.reduceMul, Nat.reduceLT, Nat.reduceLeDiff, Int.reduceLT, Int.reduceNeg, Int.reduceLE, appendP, appendAt, letGo, setLoc, locVal, Int.reduceToNat, boxCells, und, TG, SE, SC, unP, htu, VLf, extP, loadR, loadP, storeR, storeK, storeCellsP, laid, lay, setBox, nchP, callAl, List.set_cons_zero, List.set_cons_succ, List.getElem?_cons_zero, List.getElem?_cons_succ, Option.map_some, Nat.le_refl, List.take_succ_cons, List.take_zero, List.drop_nil, List.filter_nil, List.cons_append, Int.reduceBEq, Int.reduceBNe, Int.reduceGT, Int.reduceGE, Int.reduceLE, Bool.not_true, Bool.not_false, i1, i2, hck, her, b0, b1]
      exact ⟨_, _, rfl⟩
    · have c0p : (ck != 0) = true := by simpa using c0
      have ht : (if (0 : Int) ≠ 0 then (0 : Int) else if ck ≠ 0 then 4 else 0) = 4 := by rw [if_neg (fun h => h rfl), if_pos c0]
      rw [ht, if_pos (by decide)]
      unfold vlV zb RdR at *
      obtain ⟨ev, eo, so, co, ⟨hev, hco⟩, R⟩ := RULES CC; rw [← hev]
      rw [← hco] at i1 i2 hck hfa hf4 her
      simp only [fpart, part', Tryd.f45, Option.getD]
      simp (maxSteps := 5000000) only [SA, SB, SD, R, guardAt, binP, intP, indexAddrP, elemsOf, readCells, lenP, lenAt, resultsP, resultP, oneOr, reduceCtorEq, reduceIte, Nat.reduceEqDiff, Nat.reduceAdd, Nat.zero_add, Nat.reduceMul, Nat.reduceLT, Nat.reduceLeDiff, Int.reduceLT, Int.reduceNeg, Int.reduceLE, appendP, appendAt, letGo, setLoc, locVal, Int.reduceToNat, boxCells, und, TG, SE, SC, unP, htu, VLf, extP, loadR, loadP, storeR, storeK, storeCellsP, laid, lay, setBox, nchP, callAl, List.set_cons_zero, List.set_cons_succ, List.getElem?_cons_zero, List.getElem?_cons_succ, Option.map_some, Nat.le_refl, List.take_succ_cons, List.take_zero, List.drop_nil, List.filter_nil, List.cons_append, Int.reduceBEq, Int.reduceBNe, Int.reduceGT, Int.reduceGE, Int.reduceLE, Bool.not_true, Bool.not_false, i1, i2, hck, c0p, hfa, hf4, her, b0, b1]
      exact ⟨_, _, rfl⟩
  · have e0p : (e2 != 0) = true := by simpa using e0
    have e0q : (e2 == 0) = false := by simpa using e0
    rw [if_neg e0] at hfa
    rw [if_pos e0, if_pos e0]
    unfold vlV zb RdR at *
    obtain ⟨ev, eo, so, co, ⟨hev, hco⟩, R⟩ := RULES CC; rw [← hev]
    rw [← hco] at i1 i2 her
    simp only [fpart, part', Tryd.f45, Option.getD]
    simp (maxSteps := 5000000) only [SA, SB, SD, R, guardAt, binP, intP, indexAddrP, elemsOf, readCells, lenP, lenAt, resultsP, resultP, oneOr, reduceCtorEq, reduceIte, Nat.reduceEqDiff, Nat.reduceAdd, Nat.zero_add, Nat.reduceMul, Nat.reduceLT, Nat.reduceLeDiff, Int.reduceLT, Int.reduceNeg, Int.reduceLE, appendP, appendAt, letGo, setLoc, locVal, Int.reduceToNat, boxCells, und, TG, SE, SC, unP, htu, VLf, extP, loadR, loadP, storeR, storeK, storeCellsP, laid, lay, setBox, nchP, callAl, List.set_cons_zero, List.set_cons_succ, List.getElem?_cons_zero, List.getElem?_cons_succ, Option.map_some, Nat.le_refl, List.take_succ_cons, List.take_zero, List.drop_nil, List.filter_nil, List.cons_append, Int.reduceBEq, Int.reduceBNe, Int.reduceGT, Int.reduceGE, Int.reduceLE, Bool.not_true, Bool.not_false, i1, i2, e0p, e0q, her, b0, b1]
    exact ⟨_, _, rfl⟩
theorem r_Take_lo (S l : List UInt8) (hx : Sfx S l) (k : Int) (hk : k < 1 ∧ k ≠ 4) (l1 : List UInt8) (e1 : Int) (hr : rdI l 0 = (k, l1, e1)) : ∃ X Y, callL CC 45 [.bp 1 0] [zb, RdR S l 0] = some (.ret (vlV (tkF ((k, (0 : Int), ([] : List UInt8)), l1, e1))), [zb, RdR S (((k, (0 : Int), ([] : List UInt8)), l1, e1)).2.1 (tkE ((k, (0 : Int), ([] : List UInt8)), l1, e1)), X, Y]) := by
  rw [callL_enter (fn := Tryd.f45) (c := Tryd.f45.body.getD .skip) rfl rfl fat_R20_Take rfl ok_R20_Take (Nat.le_of_ble_eq_true rfl)]
  obtain ⟨tu, htu⟩ := VLs
  have b0 := buildVl0
  have b1 := buildVl1 k
  have k4 : (k == 4) = false := by simpa using hk.2
  have kr : ¬ (k ≥ 1) := by omega
  have i1 := op_r_Int [zb, RdR S l 0, zb] 1 S l 0 hx rfl
  rw [hr] at i1
  simp only [List.set_cons_succ, List.set_cons_zero] at i1
  have hck := op_R20_Check (k, 0, [])
  have her := op_r_Err [zb, RdR S l1 e1, zb, PBox.cells 26 [.int .i64 k, .int .i64 0, .str []]] 1 S l1 e1 rfl
  have hfa := op_r_Fail [zb, RdR S l1 e1, zb, PBox.cells 26 [.int .i64 k, .int .i64 0, .str []]] 1 S l1 e1 4 rfl
  have hf4 := op_r_Err [zb, RdR S l1 4, zb, PBox.cells 26 [.int .i64 k, .int .i64 0, .str []]] 1 S l1 4 rfl
  simp only [List.set_cons_succ, List.set_cons_zero] at hfa
  unfold tkF tkE
  simp only
  generalize ckV (k, 0, []) = ck at *
  by_cases e0 : e1 = 0
  · rw [if_pos e0] at hfa
    subst e0
    by_cases c0 : ck = 0
    · have c0p : (ck != 0) = false := by simp [c0]
      subst c0
      simp only [ne_eq, not_true_eq_false, if_false]
      unfold vlV zb RdR at *
      obtain ⟨ev, eo, so, co, ⟨hev, hco⟩, R⟩ := RULES CC; rw [← hev]
      rw [← hco] at i1 hck her
      simp only [fpart, part', Tryd.f45, Option.getD]
      simp (maxSteps := 5000000) only [SA, SB, SD, R, guardAt, binP, intP, indexAddrP, elemsOf, readCells, lenP, lenAt, resultsP, resultP, oneOr, reduceCtorEq, reduceIte, Nat.reduceEqDiff, Nat.reduceAdd, Nat.zero_add, Nat.reduceMul, Nat.reduceLT, Nat.reduceLeDiff, Int.reduceLT, Int.reduceNeg, Int.reduceLE, appendP, appendAt, letGo, setLoc, locVal, Int.reduceToNat, boxCells, und, TG, SE, SC, unP, htu, VLf, extP, loadR, loadP, storeR, storeK, storeCellsP, laid, lay, setBox, nchP, callAl, List.set_cons_zero, List.set_cons_succ, List.getElem?_cons_zero, List.getElem?_cons_succ, Option.map_some, Nat.le_refl, List.take_succ_cons, List.take_zero, List.drop_nil, List.filter_nil, List.cons_append, Int.reduceBEq, Int.reduceBNe, Int.reduceGT, Int.reduceGE, Int.reduceLE, Bool.not_true, Bool.not_false, i1, k4, kr, hck, her, b0, b1]
      exact ⟨_, _, rfl⟩
    · have c0p : (ck != 0) = true := by simpa using c0
      have ht : (if (0 : Int) ≠ 0 then (0 : Int) else if ck ≠ 0 then 4 else 0) = 4 := by rw [if_neg (fun h => h rfl), if_pos c0]
      rw [ht, if_pos (by decide)]
      unfold vlV zb RdR at *
      obtain ⟨ev, eo, so, co, ⟨hev, hco⟩, R⟩ := RULES CC; rw [← hev]
      rw [← hco] at i1 hck hfa hf4 her
      simp only [fpart, part', Tryd.f45, Option.getD]
      simp (maxSteps := 5000000) only [SA, SB, SD, R, guardAt, binP, intP, indexAddrP, elemsOf, readCells, lenP, lenAt, resultsP, resultP, oneOr, reduceCtorEq, reduceIte, Nat.reduceEqDiff, Nat.reduceAdd, Nat.zero_add, Nat.reduceMul, Nat.reduceLT, Nat.reduceLeDiff, Int.reduceLT, Int.reduceNeg, Int.reduceLE, appendP, appendAt, letGo, setLoc, locVal, Int.reduceToNat, boxCells, und, TG, SE, SC, unP, htu, VLf, extP, loadR, loadP, storeR, storeK, storeCellsP, laid, lay, setBox, nchP, callAl, List.set_cons_zero, List.set_cons_succ, List.getElem?_cons_zero, List.getElem?_cons_succ, Option.map_some, Nat.le_refl, List.take_succ_cons, List.take_zero, List.drop_nil, List.filter_nil, List.cons_append, Int.reduceBEq, Int.reduceBNe, Int.reduceGT, Int.reduceGE, Int.reduceLE, Bool.not_true, Bool.not_false, i1, k4, kr, hck, c0p, hfa, hf4, her, b0, b1]
      exact ⟨_, _, rfl⟩
  · have e0p : (e1 != 0) = true := by simpa using e0
    have e0q : (e1 == 0) = false := by simpa using e0
    rw [if_neg e0] at hfa
    rw [if_pos e0, if_pos e0]
    unfold vlV zb RdR at *
    obtain ⟨ev, eo, so, co, ⟨hev, hco⟩, R⟩ := RULES CC; rw [← hev]
    rw [← hco] at i1 her
    simp only [fpart, part', Tryd.f45, Option.getD]
    simp (maxSteps := 5000000) only [SA, SB, SD, R, guardAt, binP, intP, indexAddrP, elemsOf, readCells, lenP, lenAt, resultsP, resultP, oneOr, reduceCtorEq, reduceIte, Nat.reduceEqDiff, Nat.reduceAdd, Nat.zero_add, Nat.reduceMul, Nat.reduceLT, Nat.reduceLeDiff, Int.reduceLT, Int.reduceNeg, Int.reduceLE, appendP, appendAt, letGo, setLoc, locVal, Int.reduceToNat, boxCells, und, TG, SE, SC, unP, htu, VLf, extP, loadR, loadP, storeR, storeK, storeCellsP, laid, lay, setBox, nchP, callAl, List.set_cons_zero, List.set_cons_succ, List.getElem?_cons_zero, List.getElem?_cons_succ, Option.map_some, Nat.le_refl, List.take_succ_cons, List.take_zero, List.drop_nil, List.filter_nil, List.cons_append, Int.reduceBEq, Int.reduceBNe, Int.reduceGT, Int.reduceGE, Int.reduceLE, Bool.not_true, Bool.not_false, i1, k4, kr, e0p, e0q, her, b0, b1]
    exact ⟨_, _, rfl⟩
theorem r_Take_hi (S l : List UInt8) (hx : Sfx S l) (k : Int) (hk : k > 3 ∧ k ≠ 4) (l1 : List UInt8) (e1 : Int) (hr : rdI l 0 = (k, l1, e1)) : ∃ X Y, callL CC 45 [.bp 1 0] [zb, RdR S l 0] = some (.ret (vlV (tkF ((k, (0 : Int), ([] : List UInt8)), l1, e1))), [zb, RdR S (((k, (0 : Int), ([] : List UInt8)), l1, e1)).2.1 (tkE ((k, (0 : Int), ([] : List UInt8)), l1, e1)), X, Y]) := by
  rw [callL_enter (fn := Tryd.f45) (c := Tryd.f45.body.getD .skip) rfl rfl fat_R20_Take rfl ok_R20_Take (Nat.le_of_ble_eq_true rfl)]
  obtain ⟨tu, htu⟩ := VLs
  have b0 := buildVl0
  have b1 := buildVl1 k
  have k4 : (k == 4) = false := by simpa using hk.2
  have kr : k ≥ 1 := by omega
  have kq : ¬ (k ≤ 3) := by omega
  have i1 := op_r_Int [zb, RdR S l 0, zb] 1 S l 0 hx rfl
  rw [hr] at i1
  simp only [List.set_cons_succ, List.set_cons_zero] at i1
  have hck := op_R20_Check (k, 0, [])
  have her := op_r_Err [zb, RdR S l1 e1, zb, PBox.cells 26 [.int .i64 k, .int .i64 0, .str []]] 1 S l1 e1 rfl
  have hfa := op_r_Fail [zb, RdR S l1 e1, zb, PBox.cells 26 [.int .i64 k, .int .i64 0, .str []]] 1 S l1 e1 4 rfl
  have hf4 := op_r_Err [zb, RdR S l1 4, zb, PBox.cells 26 [.int .i64 k, .int .i64 0, .str []]] 1 S l1 4 rfl
  simp only [List.set_cons_succ, List.set_cons_zero] at hfa
  unfold tkF tkE
  simp only
  generalize ckV (k, 0, []) = ck at *
  by_cases e0 : e1 = 0
  · rw [if_pos e0] at hfa
    subst e0
    by_cases c0 : ck = 0
    · have c0p : (ck != 0) = false := by simp [c0]
      subst c0
      simp only [ne_eq, not_true_eq_false, if_false]
      unfold vlV zb RdR at *
      obtain ⟨ev, eo, so, co, ⟨hev, hco⟩, R⟩ := RULES CC; rw [← hev]
      rw [← hco] at i1 hck her
      simp only [fpart, part', Tryd.f45, Option.getD]
      simp (maxSteps := 5000000) only [SA, SB, SD, R, guardAt, binP, intP, indexAddrP, elemsOf, readCells, lenP, lenAt, resultsP, resultP, oneOr, reduceCtorEq, reduceIte, Nat.reduceEqDiff, Nat.reduceAdd, Nat.zero_add, Nat.reduceMul, Nat.reduceLT, Nat.reduceLeDiff, Int.reduceLT, Int.reduceNeg, Int.reduceLE, appendP, appendAt, letGo, setLoc, locVal, Int.reduceToNat, boxCells, und, TG, SE, SC, unP, htu, VLf, extP, loadR, loadP, storeR, storeK, storeCellsP, laid, lay, setBox, nchP, callAl, List.set_cons_zero, List.set_cons_succ, List.getElem?_cons_zero, List.getElem?_cons_succ, Option.map_some, Nat.le_refl, List.take_succ_cons, List.take_zero, List.drop_nil, List.filter_nil, List.cons_append, Int.reduceBEq, Int.reduceBNe, Int.reduceGT, Int.reduceGE, Int.reduceLE, Bool.not_true, Bool.not_false, i1, k4, kr, kq, hck, her, b0, b1]
      exact ⟨_, _, rfl⟩
    · have c0p : (ck != 0) = true := by simpa using c0
      have ht : (if (0 : Int) ≠ 0 then (0 : Int) else if ck ≠ 0 then 4 else 0) = 4 := by rw [if_neg (fun h => h rfl), if_pos c0]
      rw [ht, if_pos (by decide)]
      unfold vlV zb RdR at *
      obtain ⟨ev, eo, so, co, ⟨hev, hco⟩, R⟩ := RULES CC; rw [← hev]
      rw [← hco] at i1 hck hfa hf4 her
      simp only [fpart, part', Tryd.f45, Option.getD]
      simp (maxSteps := 5000000) only [SA, SB, SD, R, guardAt, binP, intP, indexAddrP, elemsOf, readCells, lenP, lenAt, resultsP, resultP, oneOr, reduceCtorEq, reduceIte, Nat.reduceEqDiff, Nat.reduceAdd, Nat.zero_add, Nat.reduceMul, Nat.reduceLT, Nat.reduceLeDiff, Int.reduceLT, Int.reduceNeg, Int.reduceLE, appendP, appendAt, letGo, setLoc, locVal, Int.reduceToNat, boxCells, und, TG, SE, SC, unP, htu, VLf, extP, loadR, loadP, storeR, storeK, storeCellsP, laid, lay, setBox, nchP, callAl, List.set_cons_zero, List.set_cons_succ, List.getElem?_cons_zero, List.getElem?_cons_succ, Option.map_some, Nat.le_refl, List.take_succ_cons, List.take_zero, List.drop_nil, List.filter_nil, List.cons_append, Int.reduceBEq, Int.reduceBNe, Int.reduceGT, Int.reduceGE, Int.reduceLE, Bool.not_true, Bool.not_false, i1, k4, kr, kq, hck, c0p, hfa, hf4, her, b0, b1]
      exact ⟨_, _, rfl⟩
  · have e0p : (e1 != 0) = true := by simpa using e0
    have e0q : (e1 == 0) = false := by simpa using e0
    rw [if_neg e0] at hfa
    rw [if_pos e0, if_pos e0]
    unfold vlV zb RdR at *
    obtain ⟨ev, eo, so, co, ⟨hev, hco⟩, R⟩ := RULES CC; rw [← hev]
    rw [← hco] at i1 her
    simp only [fpart, part', Tryd.f45, Option.getD]
    simp (maxSteps := 5000000) only [SA, SB, SD, R, guardAt, binP, intP, indexAddrP, elemsOf, readCells, lenP, lenAt, resultsP, resultP, oneOr, reduceCtorEq, reduceIte, Nat.reduceEqDiff, Nat.reduceAdd, Nat.zero_add, Nat.reduceMul, Nat.reduceLT, Nat.reduceLeDiff, Int.reduceLT, Int.reduceNeg, Int.reduceLE, appendP, appendAt, letGo, setLoc, locVal, Int.reduceToNat, boxCells, und, TG, SE, SC, unP, htu, VLf, extP, loadR, loadP, storeR, storeK, storeCellsP, laid, lay, setBox, nchP, callAl, List.set_cons_zero, List.set_cons_succ, List.getElem?_cons_zero, List.getElem?_cons_succ, Option.map_some, Nat.le_refl, List.take_succ_cons, List.take_zero, List.drop_nil, List.filter_nil, List.cons_append, Int.reduceBEq, Int.reduceBNe, Int.reduceGT, Int.reduceGE, Int.reduceLE, Bool.not_true, Bool.not_false, i1, k4, kr, kq, e0p, e0q, her, b0, b1]
    exact ⟨_, _, rfl⟩
theorem call_r_Take (S l : List UInt8) (hx : Sfx S l) : ∃ X Y, callL CC 45 [.bp 1 0] [zb, RdR S l 0] = some (.ret (vlV (tkF (tkA l))), [zb, RdR S ((tkA l)).2.1 (tkE (tkA l)), X, Y]) := by
  unfold tkA
  rcases hr : rdI l 0 with ⟨k, l1, e1⟩
  simp only
  by_cases k1 : k = 1
  · subst k1
    rw [if_pos (.inl rfl)]
    rcases hr2 : rdI l1 e1 with ⟨n, l2, e2⟩
    exact r_Take_1 S l hx l1 e1 hr n l2 e2 hr2 (by have := hx.rdI 0; rw [hr] at this; exact this)
  by_cases k2 : k = 2
  · subst k2
    rw [if_pos (.inr (.inl rfl))]
    rcases hr2 : rdI l1 e1 with ⟨n, l2, e2⟩
    exact r_Take_2 S l hx l1 e1 hr n l2 e2 hr2 (by have := hx.rdI 0; rw [hr] at this; exact this)
  by_cases k3 : k = 3
  · subst k3
    rw [if_pos (.inr (.inr rfl))]
    rcases hr2 : rdI l1 e1 with ⟨n, l2, e2⟩
    exact r_Take_3 S l hx l1 e1 hr n l2 e2 hr2 (by have := hx.rdI 0; rw [hr] at this; exact this)
  rw [if_neg (by omega)]
  by_cases k4 : k = 4
  · subst k4
    rw [if_pos rfl]
    rcases hr2 : rdT l1 e1 with ⟨s, l2, e2⟩
    exact r_Take_4 S l hx l1 e1 hr s l2 e2 hr2 (by have := hx.rdI 0; rw [hr] at this; exact this)
  rw [if_neg k4]
  by_cases kl : k < 1
  · exact r_Take_lo S l hx k ⟨kl, k4⟩ l1 e1 hr
  · exact r_Take_hi S l hx k ⟨by omega, k4⟩ l1 e1 hr
theorem op_r_Take (S l : List UInt8) (hx : Sfx S l) : callOp CC (callL CC) 45 [.bp 1 0] [zb, RdR S l 0] = some (.ret (vlV (tkF (tkA l))), [zb, RdR S (tkA l).2.1 (tkE (tkA l))]) := by
  obtain ⟨X, Y, h⟩ := call_r_Take S l hx
  unfold callOp
  rw [if_pos (by rfl), h]
  rfl
/-- what 'Decode' says of a string -/
def dcV (s : List UInt8) : Vl × Int := if endE (tkA s).2.1 (tkE (tkA s)) ≠ 0 then ((0, 0, []), endE (tkA s).2.1 (tkE (tkA s))) else (tkF (tkA s), 0)
theorem call_value_Decode (s : List UInt8) (hl : s.length ≤ 900000) : ∃ bx, callL CC 25 [.str s] [] = some (.ret (.tup [vlV (dcV s).1, .int .i64 (dcV s).2]), bx) := by
  rw [callL_enter (fn := Tryd.f25) (c := Tryd.f25.body.getD .skip) rfl rfl fat_value_Decode rfl ok_value_Decode (Nat.le_of_ble_eq_true rfl)]
  obtain ⟨tu, htu⟩ := VLs
  have hnw := op_w_New s
  have hx : Sfx s s := ⟨by rw [Nat.sub_self]; rfl, Nat.le_refl _, hl⟩
  have htk := op_w_Take s hl
  have hsx := hx.tkA
  have b0 := buildVl0
  unfold dcV
  generalize tkF (tkA s) = v at *
  generalize tkE (tkA s) = e at *
  generalize (tkA s).2.1 = l at *
  obtain ⟨k, n, x⟩ := v
  have hen := op_w_End [zb, RdW l e, PBox.cells 26 [.int .i64 k, .int .i64 n, .str x]] 1 l e rfl
  generalize endE l e = E at *
  by_cases e0 : E = 0
  · have e0p : (E != 0) = false := by simp [e0]
    rw [if_neg (fun h => h e0)]
    unfold vlV zb RdW at *
    simp only
    obtain ⟨ev, eo, so, co, ⟨hev, hco⟩, R⟩ := RULES CC; rw [← hev]
    rw [← hco] at hnw htk hen
    simp only [fpart, part', Tryd.f25, Option.getD]
    simp (maxSteps := 5000000) only [SA, SB, SD, R, guardAt, binP, intP, indexAddrP, elemsOf, readCells, lenP, lenAt, resultsP, resultP, oneOr, reduceCtorEq, reduceIte, Nat.reduceEqDiff, Nat.reduceAdd, Nat.zero_add, Nat.reduceMul, Nat.reduceLT, Nat.reduceLeDiff, Int.reduceLT, Int.reduceNeg, Int.reduceLE, appendP, appendAt, letGo, setLoc, locVal, Int.reduceToNat, boxCells, und, TG, SE, SC, unP, htu, VLf, extP, loadR, loadP, storeR, storeK, storeCellsP, laid, lay, setBox, nchP, callAl, List.set_cons_zero, List.set_cons_succ, List.getElem?_cons_zero, List.getElem?_cons_succ, Option.map_some, Nat.le_refl, List.take_succ_cons, List.take_zero, List.drop_nil, List.filter_nil, List.cons_append, Int.reduceBEq, Int.reduceBNe, Int.reduceGT, Int.reduceGE, Int.reduceLE, Bool.not_true, Bool.not_false, hnw, htk, hen, e0p, b0]
    exact ⟨_, rfl⟩
  · have e0p : (E != 0) = true := by simpa using e0
    rw [if_pos e0]
    unfold vlV zb RdW at *
    simp only
    obtain ⟨ev, eo, so, co, ⟨hev, hco⟩, R⟩ := RULES CC; rw [← hev]
    rw [← hco] at hnw htk hen
    simp only [fpart, part', Tryd.f25, Option.getD]
    simp (maxSteps := 5000000) only [SA, SB, SD, R, guardAt, binP, intP, indexAddrP, elemsOf, readCells, lenP, lenAt, resultsP, resultP, oneOr, reduceCtorEq, reduceIte, Nat.reduceEqDiff, Nat.reduceAdd, Nat.zero_add, Nat.reduceMul, Nat.reduceLT, Nat.reduceLeDiff, Int.reduceLT, Int.reduceNeg, Int.reduceLE, appendP, appendAt, letGo, setLoc, locVal, Int.reduceToNat, boxCells, und, TG, SE, SC, unP, htu, VLf, extP, loadR, loadP, storeR, storeK, storeCellsP, laid, lay, setBox, nchP, callAl, List.set_cons_zero, List.set_cons_succ, List.getElem?_cons_zero, List.getElem?_cons_succ, Option.map_some, Nat.le_refl, List.take_succ_cons, List.take_zero, List.drop_nil, List.filter_nil, List.cons_append, Int.reduceBEq, Int.reduceBNe, Int.reduceGT, Int.reduceGE, Int.reduceLE, Bool.not_true, Bool.not_false, hnw, htk, hen, e0p, b0]
    exact ⟨_, rfl⟩
theorem op_value_Decode (s : List UInt8) (hl : s.length ≤ 900000) (bx) : callOp CC (callL CC) 25 [.str s] bx = some (.ret (.tup [vlV (dcV s).1, .int .i64 (dcV s).2]), bx) := by
  obtain ⟨b, h⟩ := call_value_Decode s hl
  exact callOp_of rfl (by simp only [SA, Bool.and_true]) h rfl
theorem call_R20_Decode (s : List UInt8) (hl : s.length ≤ 900000) : ∃ bx, callL CC 26 [.str s] [] = some (.ret (.tup [vlV (dcV s).1, .int .i64 (dcV s).2]), bx) := by
  rw [callL_enter (fn := Tryd.f26) (c := Tryd.f26.body.getD .skip) rfl rfl fat_R20_Decode rfl ok_R20_Decode (Nat.le_of_ble_eq_true rfl)]
  obtain ⟨tu, htu⟩ := VLs
  have hnw := op_r_New s
  have hx : Sfx s s := ⟨by rw [Nat.sub_self]; rfl, Nat.le_refl _, hl⟩
  have htk := op_r_Take s s hx
  have hsx := hx.tkA
  have b0 := buildVl0
  unfold dcV
  generalize tkF (tkA s) = v at *
  generalize tkE (tkA s) = e at *
  generalize (tkA s).2.1 = l at *
  obtain ⟨k, n, x⟩ := v
  have hen := op_r_End [zb, RdR s l e, PBox.cells 26 [.int .i64 k, .int .i64 n, .str x]] 1 s l e hsx rfl
  generalize endE l e = E at *
  by_cases e0 : E = 0
  · have e0p : (E != 0) = false := by simp [e0]
    rw [if_neg (fun h => h e0)]
    unfold vlV zb RdR at *
    simp only
    obtain ⟨ev, eo, so, co, ⟨hev, hco⟩, R⟩ := RULES CC; rw [← hev]
    rw [← hco] at hnw htk hen
    simp only [fpart, part', Tryd.f26, Option.getD]
    simp (maxSteps := 5000000) only [SA, SB, SD, R, guardAt, binP, intP, indexAddrP, elemsOf, readCells, lenP, lenAt, resultsP, resultP, oneOr, reduceCtorEq, reduceIte, Nat.reduceEqDiff, Nat.reduceAdd, Nat.zero_add, Nat.reduceMul, Nat.reduceLT, Nat.reduceLeDiff, Int.reduceLT, Int.reduceNeg, Int.reduceLE, appendP, appendAt, letGo, setLoc, locVal, Int.reduceToNat, boxCells, und, TG, SE, SC, unP, htu, VLf, extP, loadR, loadP, storeR, storeK, storeCellsP, laid, lay, setBox, nchP, callAl, List.set_cons_zero, List.set_cons_succ, List.getElem?_cons_zero, List.getElem?_cons_succ, Option.map_some, Nat.le_refl, List.take_succ_cons, List.take_zero, List.drop_nil, List.filter_nil, List.cons_append, Int.reduceBEq, Int.reduceBNe, Int.reduceGT, Int.reduceGE, Int.reduceLE, Bool.not_true, Bool.not_false, hnw, htk, hen, e0p, b0]
    exact ⟨_, rfl⟩
  · have e0p : (E != 0) = true := by simpa using e0
    rw [if_pos e0]
    unfold vlV zb RdR at *
    simp only
    obtain ⟨ev, eo, so, co, ⟨hev, hco⟩, R⟩ := RULES CC; rw [← hev]
    rw [← hco] at hnw htk hen
    simp only [fpart, part', Tryd.f26, Option.getD]
    simp (maxSteps := 5000000) only [SA, SB, SD, R, guardAt, binP, intP, indexAddrP, elemsOf, readCells, lenP, lenAt, resultsP, resultP, oneOr, reduceCtorEq, reduceIte, Nat.reduceEqDiff, Nat.reduceAdd, Nat.zero_add, Nat.reduceMul, Nat.reduceLT, Nat.reduceLeDiff, Int.reduceLT, Int.reduceNeg, Int.reduceLE, appendP, appendAt, letGo, setLoc, locVal, Int.reduceToNat, boxCells, und, TG, SE, SC, unP, htu, VLf, extP, loadR, loadP, storeR, storeK, storeCellsP, laid, lay, setBox, nchP, callAl, List.set_cons_zero, List.set_cons_succ, List.getElem?_cons_zero, List.getElem?_cons_succ, Option.map_some, Nat.le_refl, List.take_succ_cons, List.take_zero, List.drop_nil, List.filter_nil, List.cons_append, Int.reduceBEq, Int.reduceBNe, Int.reduceGT, Int.reduceGE, Int.reduceLE, Bool.not_true, Bool.not_false, hnw, htk, hen, e0p, b0]
    exact ⟨_, rfl⟩
theorem op_R20_Decode (s : List UInt8) (hl : s.length ≤ 900000) (bx) : callOp CC (callL CC) 26 [.str s] bx = some (.ret (.tup [vlV (dcV s).1, .int .i64 (dcV s).2]), bx) := by
  obtain ⟨b, h⟩ := call_R20_Decode s hl
  exact callOp_of rfl (by simp only [SA, Bool.and_true]) h rfl
end Go.HH
