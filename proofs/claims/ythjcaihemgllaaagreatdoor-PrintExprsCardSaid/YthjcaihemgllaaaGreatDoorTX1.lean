/-
  Joined: T1.
-/
import Derived.Test.YthjcaihemgllaaaGreatDoorPJ1
import Derived.Test.YthjcaihemgllaaaGreatDoorV11Q
namespace Go.HH
open Go Go.Proofs
set_option maxRecDepth 100000
set_option linter.unusedSimpArgs false
set_option linter.unusedVariables false
set_option maxHeartbeats 4000000
/-- one text behind another -/
def cat (a b : List UInt8) : List UInt8 := a ++ b
theorem cat_len (a b : List UInt8) : (cat a b).length = a.length + b.length := List.length_append
theorem catA {a b : List UInt8} (h : a.length + b.length ≤ 2 ^ 60) : strP .add a b = some (.str (cat a b)) := if_pos h
def dig (n : Nat) : UInt8 := UInt8.ofNat (48 + n)
def dayW : List (List UInt8) := [[109, 111, 110], [116, 117, 101], [119, 101, 100], [116, 104, 117], [102, 114, 105], [115, 97, 116], [115, 117, 110]]
def dayL : Nat → List (List UInt8) → List UInt8
  | _, [] => []
  | m, w :: r => if m % 2 = 1 then (if m / 2 = 0 then w else w ++ 44 :: dayL (m / 2) r) else dayL (m / 2) r
def dayN (m : Nat) : List UInt8 := [100, 97, 121, 115, 32] ++ dayL m dayW
/-- what a function of a number returns, for a number that is known -/
noncomputable def chkW (f : FuncId) (g : Nat → List UInt8) (n : Nat) : Bool := match callF CC 80 f [.int .i64 (n : Int)] [] with
  | some (.ret (.str s), _) => s == g n
  | _ => false
theorem of_chkW {f : FuncId} {g : Nat → List UInt8} {l : List Nat} (h : l.all (chkW f g) = true) (n : Nat) (hn : n ∈ l) : ∃ bx, callL CC f [.int .i64 (n : Int)] [] = some (.ret (.str (g n)), bx) := by
  have := List.all_eq_true.1 h n hn
  unfold chkW at this
  split at this
  · rename_i s bx hs
    have e : s = g n := by simpa using this
    subst e
    exact ⟨_, callL_iff.2 ⟨80, hs⟩⟩
  · cases this
theorem all_days : ((List.range 127).map (· + 1)).all (chkW 123 dayN) = true := by kernel_rfl
theorem all_Days : ((List.range 127).map (· + 1)).all (chkW 82 dayN) = true := by kernel_rfl
theorem op_days (n : Int) (h : 1 ≤ n ∧ n ≤ 127) (bx) : callOp CC (callL CC) 123 [.int .i64 n] bx = some (.ret (.str (dayN n.toNat)), bx) := by
  obtain ⟨b, hc⟩ := of_chkW all_days n.toNat (List.mem_map.2 ⟨n.toNat - 1, List.mem_range.2 (by omega), by omega⟩)
  rw [show ((n.toNat : Nat) : Int) = n by omega] at hc
  exact callOp_of rfl rfl hc rfl
theorem op_Days (n : Int) (h : 1 ≤ n ∧ n ≤ 127) (bx) : callOp CC (callL CC) 82 [.int .i64 n] bx = some (.ret (.str (dayN n.toNat)), bx) := by
  obtain ⟨b, hc⟩ := of_chkW all_Days n.toNat (List.mem_map.2 ⟨n.toNat - 1, List.mem_range.2 (by omega), by omega⟩)
  rw [show ((n.toNat : Nat) : Int) = n by omega] at hc
  exact callOp_of rfl rfl hc rfl
def twoN (n : Nat) : List UInt8 := [dig (n / 10), dig (n % 10)]
theorem all_two : (List.range 60).all (chkW 153 twoN) = true := by kernel_rfl
theorem op_two (n : Nat) (h : n < 60) (bx) : callOp CC (callL CC) 153 [.int .i64 (n : Int)] bx = some (.ret (.str (twoN n)), bx) := by
  obtain ⟨b, hc⟩ := of_chkW all_two n (List.mem_range.2 h)
  exact callOp_of rfl rfl hc rfl
def oneN (n : Nat) : List UInt8 := [dig n]
theorem all_one : (List.range 10).all (chkW 41 oneN) = true := by kernel_rfl
theorem op_one (n : Nat) (h : n < 10) (bx) : callOp CC (callL CC) 41 [.int .i64 (n : Int)] bx = some (.ret (.str (oneN n)), bx) := by
  obtain ⟨b, hc⟩ := of_chkW all_one n (List.mem_range.2 h)
  exact callOp_of rfl rfl hc rfl
def clkT (n : Nat) : List UInt8 := [dig (n / 60 / 10), dig (n / 60 % 10), 58, dig (n % 60 / 10), dig (n % 60 % 10)]
theorem quo_nat (n k : Nat) : ((n : Int).tdiv (k : Int)) = ((n / k : Nat) : Int) := by rw [Int.tdiv_eq_ediv_of_nonneg (by omega)]; rfl
theorem rem_nat (n k : Nat) : ((n : Int).tmod (k : Int)) = ((n % k : Nat) : Int) := by rw [Int.tmod_eq_emod_of_nonneg (by omega)]; rfl
theorem ok_print_clock : fnOK CC Tryz.f122 (Tryz.f122.body.getD .skip) = true := by kernel_rfl
theorem fat_print_clock : CC.P.funcs[122]? = some Tryz.f122 := by kernel_rfl
theorem ok_R30_Clock : fnOK CC Tryz.f81 (Tryz.f81.body.getD .skip) = true := by kernel_rfl
theorem fat_R30_Clock : CC.P.funcs[81]? = some Tryz.f81 := by kernel_rfl
theorem ok_print_dotted : fnOK CC Tryz.f121 (Tryz.f121.body.getD .skip) = true := by kernel_rfl
theorem fat_print_dotted : CC.P.funcs[121]? = some Tryz.f121 := by kernel_rfl
theorem ok_R30_Path : fnOK CC Tryz.f80 (Tryz.f80.body.getD .skip) = true := by kernel_rfl
theorem fat_R30_Path : CC.P.funcs[80]? = some Tryz.f80 := by kernel_rfl
theorem FNi : ∃ a b v, CC.P.underlying 75 = some (.func a b v) := by
  have h : (match Tryz.prog.underlying 75 with | some (.func _ _ _) => true | _ => false) = true := by kernel_rfl
  split at h
  · rename_i a b v e; exact ⟨a, b, v, e⟩
  · cases h
theorem call_clock (n : Nat) (h : n < 1440) : ∃ bx, callL CC 122 [.int .i64 (n : Int)] [] = some (.ret (.str (clkT n)), bx) := by
  have o1 := op_two (n / 60) (by omega)
  have o2 := op_two (n % 60) (by omega)
  have q1 := quo_nat n 60
  have q2 := rem_nat n 60
  have w1 := wrap_i64 (n := ((n / 60 : Nat) : Int)) ⟨by omega, by omega⟩
  have w2 := wrap_i64 (n := ((n % 60 : Nat) : Int)) ⟨by omega, by omega⟩
  have c1 := catA (a := twoN (n / 60)) (b := [58]) (by simp [twoN])
  have c2 := catA (a := cat (twoN (n / 60)) [58]) (b := twoN (n % 60)) (by simp [twoN, cat])
  have e : clkT n = cat (cat (twoN (n / 60)) [58]) (twoN (n % 60)) := rfl
  have k60 : ((60 : Nat) : Int) = 60 := rfl
  rw [k60] at q1 q2
  rw [e]
  obtain ⟨tu, htu⟩ := VLs
  obtain ⟨fa, fb, fv, hfn⟩ := FNi
  generalize twoN (n / 60) = s1 at *
  generalize twoN (n % 60) = s2 at *
  generalize ((n / 60 : Nat) : Int) = x1 at *
  generalize ((n % 60 : Nat) : Int) = x2 at *
  rw [callL_enter (fn := Tryz.f122) (c := Tryz.f122.body.getD .skip) rfl rfl fat_print_clock rfl ok_print_clock (Nat.le_of_ble_eq_true rfl)]
  obtain ⟨ev, eo, so, co, ⟨hev, hco⟩, R⟩ := RULES CC; rw [← hev]
  rw [← hco] at o1 o2
  simp only [fpart, part', Tryz.f122, Option.getD]
  simp (maxSteps := 5000000) only [SA, SB, SD, R, guardAt, binP, intP, indexAddrP, elemsOf, readCells, lenP, lenAt, resultsP, resultP, oneOr, reduceCtorEq, reduceIte, Nat.reduceEqDiff, Nat.reduceAdd, Nat.zero_add, Nat.reduceMul, Nat.reduceLT, Nat.reduceLeDiff, Int.reduceLT, Int.reduceNeg, Int.reduceLE, appendP, appendAt, letGo, setLoc, locVal, Int.reduceToNat, boxCells, und, TG, SE, SC, dynR, callAl, hfn, htu, unP, List.getElem?_cons_zero, List.getElem?_cons_succ, List.nil_append, List.append_nil, List.map_nil, Int.reduceBEq, Int.reduceBNe, Int.reduceGT, Int.reduceGE, Int.reduceEq, Bool.not_true, Bool.not_false, o1, o2, q1, q2, w1, w2, c1, c2]
  exact ⟨_, rfl⟩
theorem op_clock (n : Int) (h : 0 ≤ n ∧ n < 1440) (bx) : callOp CC (callL CC) 122 [.int .i64 n] bx = some (.ret (.str (clkT n.toNat)), bx) := by
  obtain ⟨b, hc⟩ := call_clock n.toNat (by omega)
  rw [show ((n.toNat : Nat) : Int) = n by omega] at hc
  exact callOp_of rfl rfl hc rfl
theorem call_Clock (n : Nat) (h : n < 1440) : ∃ bx, callL CC 81 [.int .i64 (n : Int)] [] = some (.ret (.str (clkT n)), bx) := by
  have o1 := op_one (n / 60 / 10) (by omega)
  have o2 := op_one (n / 60 % 10) (by omega)
  have o3 := op_one (n % 60 / 10) (by omega)
  have o4 := op_one (n % 60 % 10) (by omega)
  have q1 := quo_nat n 60
  have q2 := rem_nat n 60
  have q3 := quo_nat (n / 60) 10
  have q4 := rem_nat (n / 60) 10
  have q5 := quo_nat (n % 60) 10
  have q6 := rem_nat (n % 60) 10
  have w1 := wrap_i64 (n := ((n / 60 : Nat) : Int)) ⟨by omega, by omega⟩
  have w2 := wrap_i64 (n := ((n % 60 : Nat) : Int)) ⟨by omega, by omega⟩
  have w3 := wrap_i64 (n := ((n / 60 / 10 : Nat) : Int)) ⟨by omega, by omega⟩
  have w4 := wrap_i64 (n := ((n / 60 % 10 : Nat) : Int)) ⟨by omega, by omega⟩
  have w5 := wrap_i64 (n := ((n % 60 / 10 : Nat) : Int)) ⟨by omega, by omega⟩
  have w6 := wrap_i64 (n := ((n % 60 % 10 : Nat) : Int)) ⟨by omega, by omega⟩
  have c1 := catA (a := oneN (n / 60 / 10)) (b := oneN (n / 60 % 10)) (by simp [oneN])
  have c2 := catA (a := cat (oneN (n / 60 / 10)) (oneN (n / 60 % 10))) (b := [58]) (by simp [oneN, cat])
  have c3 := catA (a := cat (cat (oneN (n / 60 / 10)) (oneN (n / 60 % 10))) [58]) (b := oneN (n % 60 / 10)) (by simp [oneN, cat])
  have c4 := catA (a := cat (cat (cat (oneN (n / 60 / 10)) (oneN (n / 60 % 10))) [58]) (oneN (n % 60 / 10))) (b := oneN (n % 60 % 10)) (by simp [oneN, cat])
  have e : clkT n = cat (cat (cat (cat (oneN (n / 60 / 10)) (oneN (n / 60 % 10))) [58]) (oneN (n % 60 / 10))) (oneN (n % 60 % 10)) := rfl
  have k60 : ((60 : Nat) : Int) = 60 := rfl
  have k10 : ((10 : Nat) : Int) = 10 := rfl
  rw [k60] at q1 q2
  rw [k10] at q3 q4 q5 q6
  rw [e]
  obtain ⟨tu, htu⟩ := VLs
  obtain ⟨fa, fb, fv, hfn⟩ := FNi
  generalize oneN (n / 60 / 10) = s1 at *
  generalize oneN (n / 60 % 10) = s2 at *
  generalize oneN (n % 60 / 10) = s3 at *
  generalize oneN (n % 60 % 10) = s4 at *
  generalize ((n / 60 / 10 : Nat) : Int) = y1 at *
  generalize ((n / 60 % 10 : Nat) : Int) = y2 at *
  generalize ((n % 60 / 10 : Nat) : Int) = y3 at *
  generalize ((n % 60 % 10 : Nat) : Int) = y4 at *
  generalize ((n / 60 : Nat) : Int) = x1 at *
  generalize ((n % 60 : Nat) : Int) = x2 at *
  rw [callL_enter (fn := Tryz.f81) (c := Tryz.f81.body.getD .skip) rfl rfl fat_R30_Clock rfl ok_R30_Clock (Nat.le_of_ble_eq_true rfl)]
  obtain ⟨ev, eo, so, co, ⟨hev, hco⟩, R⟩ := RULES CC; rw [← hev]
  rw [← hco] at o1 o2 o3 o4
  simp only [fpart, part', Tryz.f81, Option.getD]
  simp (maxSteps := 5000000) only [SA, SB, SD, R, guardAt, binP, intP, indexAddrP, elemsOf, readCells, lenP, lenAt, resultsP, resultP, oneOr, reduceCtorEq, reduceIte, Nat.reduceEqDiff, Nat.reduceAdd, Nat.zero_add, Nat.reduceMul, Nat.reduceLT, Nat.reduceLeDiff, Int.reduceLT, Int.reduceNeg, Int.reduceLE, appendP, appendAt, letGo, setLoc, locVal, Int.reduceToNat, boxCells, und, TG, SE, SC, dynR, callAl, hfn, htu, unP, List.getElem?_cons_zero, List.getElem?_cons_succ, List.nil_append, List.append_nil, List.map_nil, Int.reduceBEq, Int.reduceBNe, Int.reduceGT, Int.reduceGE, Int.reduceEq, Bool.not_true, Bool.not_false, o1, o2, o3, o4, q1, q2, q3, q4, q5, q6, w1, w2, w3, w4, w5, w6, c1, c2, c3, c4]
  exact ⟨_, rfl⟩
theorem op_Clock (n : Int) (h : 0 ≤ n ∧ n < 1440) (bx) : callOp CC (callL CC) 81 [.int .i64 n] bx = some (.ret (.str (clkT n.toNat)), bx) := by
  obtain ⟨b, hc⟩ := call_Clock n.toNat (by omega)
  rw [show ((n.toNat : Nat) : Int) = n by omega] at hc
  exact callOp_of rfl rfl hc rfl
def dotT (d : Int) (a b : List UInt8) : List UInt8 := cat (cat (cat (cat (Lib.itoa d) [46]) a) [46]) b
theorem call_dotted (d : Int) (a b : List UInt8) (h : inI d) (ha : a.length ≤ 1000) (hb : b.length ≤ 1000) : ∃ bx, callL CC 121 [.int .i64 d, .str a, .str b] [] = some (.ret (.str (dotT d a b)), bx) := by
  have o1 := op_num_Digits d h
  have hl := itoa_length h
  unfold dotT
  generalize Lib.itoa d = s at *
  have c1 := catA (a := s) (b := [46]) (by simp only [List.length_singleton]; omega)
  have c2 := catA (a := cat s [46]) (b := a) (by simp only [cat_len, List.length_singleton]; omega)
  have c3 := catA (a := cat (cat s [46]) a) (b := [46]) (by simp only [cat_len, List.length_singleton]; omega)
  have c4 := catA (a := cat (cat (cat s [46]) a) [46]) (b := b) (by simp only [cat_len, List.length_singleton]; omega)
  obtain ⟨tu, htu⟩ := VLs
  obtain ⟨fa, fb, fv, hfn⟩ := FNi
  rw [callL_enter (fn := Tryz.f121) (c := Tryz.f121.body.getD .skip) rfl rfl fat_print_dotted rfl ok_print_dotted (Nat.le_of_ble_eq_true rfl)]
  obtain ⟨ev, eo, so, co, ⟨hev, hco⟩, R⟩ := RULES CC; rw [← hev]
  rw [← hco] at o1
  simp only [fpart, part', Tryz.f121, Option.getD]
  simp (maxSteps := 5000000) only [SA, SB, SD, R, guardAt, binP, intP, indexAddrP, elemsOf, readCells, lenP, lenAt, resultsP, resultP, oneOr, reduceCtorEq, reduceIte, Nat.reduceEqDiff, Nat.reduceAdd, Nat.zero_add, Nat.reduceMul, Nat.reduceLT, Nat.reduceLeDiff, Int.reduceLT, Int.reduceNeg, Int.reduceLE, appendP, appendAt, letGo, setLoc, locVal, Int.reduceToNat, boxCells, und, TG, SE, SC, dynR, callAl, hfn, htu, unP, List.getElem?_cons_zero, List.getElem?_cons_succ, List.nil_append, List.append_nil, List.map_nil, Int.reduceBEq, Int.reduceBNe, Int.reduceGT, Int.reduceGE, Int.reduceEq, Bool.not_true, Bool.not_false, o1, c1, c2, c3, c4]
  exact ⟨_, rfl⟩
theorem op_dotted (d : Int) (a b : List UInt8) (h : inI d) (ha : a.length ≤ 1000) (hb : b.length ≤ 1000) (bx) : callOp CC (callL CC) 121 [.int .i64 d, .str a, .str b] bx = some (.ret (.str (dotT d a b)), bx) := by
  obtain ⟨c, hc⟩ := call_dotted d a b h ha hb
  exact callOp_of rfl rfl hc rfl
theorem call_Path (d : Int) (a b : List UInt8) (h : inI d) (ha : a.length ≤ 1000) (hb : b.length ≤ 1000) : ∃ bx, callL CC 80 [.int .i64 d, .str a, .str b] [] = some (.ret (.str (dotT d a b)), bx) := by
  have o1 := op_R01_Digits d h
  have hl := itoa_length h
  unfold dotT
  generalize Lib.itoa d = s at *
  have c1 := catA (a := s) (b := [46]) (by simp only [List.length_singleton]; omega)
  have c2 := catA (a := cat s [46]) (b := a) (by simp only [cat_len, List.length_singleton]; omega)
  have c3 := catA (a := cat (cat s [46]) a) (b := [46]) (by simp only [cat_len, List.length_singleton]; omega)
  have c4 := catA (a := cat (cat (cat s [46]) a) [46]) (b := b) (by simp only [cat_len, List.length_singleton]; omega)
  obtain ⟨tu, htu⟩ := VLs
  obtain ⟨fa, fb, fv, hfn⟩ := FNi
  rw [callL_enter (fn := Tryz.f80) (c := Tryz.f80.body.getD .skip) rfl rfl fat_R30_Path rfl ok_R30_Path (Nat.le_of_ble_eq_true rfl)]
  obtain ⟨ev, eo, so, co, ⟨hev, hco⟩, R⟩ := RULES CC; rw [← hev]
  rw [← hco] at o1
  simp only [fpart, part', Tryz.f80, Option.getD]
  simp (maxSteps := 5000000) only [SA, SB, SD, R, guardAt, binP, intP, indexAddrP, elemsOf, readCells, lenP, lenAt, resultsP, resultP, oneOr, reduceCtorEq, reduceIte, Nat.reduceEqDiff, Nat.reduceAdd, Nat.zero_add, Nat.reduceMul, Nat.reduceLT, Nat.reduceLeDiff, Int.reduceLT, Int.reduceNeg, Int.reduceLE, appendP, appendAt, letGo, setLoc, locVal, Int.reduceToNat, boxCells, und, TG, SE, SC, dynR, callAl, hfn, htu, unP, List.getElem?_cons_zero, List.getElem?_cons_succ, List.nil_append, List.append_nil, List.map_nil, Int.reduceBEq, Int.reduceBNe, Int.reduceGT, Int.reduceGE, Int.reduceEq, Bool.not_true, Bool.not_false, o1, c1, c2, c3, c4]
  exact ⟨_, rfl⟩
theorem op_Path (d : Int) (a b : List UInt8) (h : inI d) (ha : a.length ≤ 1000) (hb : b.length ≤ 1000) (bx) : callOp CC (callL CC) 80 [.int .i64 d, .str a, .str b] bx = some (.ret (.str (dotT d a b)), bx) := by
  obtain ⟨c, hc⟩ := call_Path d a b h ha hb
  exact callOp_of rfl rfl hc rfl
end Go.HH
