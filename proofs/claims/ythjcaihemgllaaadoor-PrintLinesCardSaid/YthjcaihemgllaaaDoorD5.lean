/-
  For one seat, what its law needs of: VQP, VDP, V11Q, T1, T2, T3, T4, T5, T6, T7, T8.
-/
import Derived.Test.YthjcaihemgllaaaDoorST
import Derived.Test.YthjcaihemgllaaaDoorN0
import Derived.Test.YthjcaihemgllaaaDoorD4
namespace Go.HH
open Go Go.Proofs
set_option maxRecDepth 100000
set_option linter.unusedSimpArgs false
set_option linter.unusedVariables false
def hexd (d : Nat) : UInt8 := UInt8.ofNat (if d < 10 then 48 + d else 87 + d)
/-- the form of a byte in quotes -/
def formN (n : Nat) : List UInt8 := if n = 34 ∨ n = 92 then [92, UInt8.ofNat n] else if n < 32 ∨ 126 < n then [92, 120, hexd (n / 16), hexd (n % 16)] else [UInt8.ofNat n]
def formL (c : UInt8) : List UInt8 := formN c.toNat
def hexN (n : Nat) : Int := if 48 ≤ n ∧ n ≤ 57 then n - 48 else if 97 ≤ n ∧ n ≤ 102 then n - 87 else -1
def hexV (c : UInt8) : Int := hexN c.toNat
/-- what a function of one byte returns, for each of the 256 -/
noncomputable def chkStr (f : FuncId) (g : Nat → List UInt8) (n : Nat) : Bool := match callF CC 50 f [.int .u8 n] [] with
  | some (.ret (.str s), []) => s == g n
  | _ => false
theorem of_chkStr {f : FuncId} {g : Nat → List UInt8} (h : (List.range 256).all (chkStr f g) = true) (c : UInt8) : callL CC f [.int .u8 (c.toNat : Int)] [] = some (.ret (.str (g c.toNat)), []) := by
  have := List.all_eq_true.1 h c.toNat (List.mem_range.2 (UInt8.toNat_lt c))
  unfold chkStr at this
  split at this
  · rename_i s hs
    have e : s = g c.toNat := by simpa using this
    subst e
    exact callL_iff.2 ⟨50, hs⟩
  · cases this
theorem all_form : (List.range 256).all (chkStr 68 formN) = true := by kernel_rfl
theorem op_names_form (c : UInt8) (bx) : callOp CC (callL CC) 68 [.int .u8 (c.toNat : Int)] bx = some (.ret (.str (formL c)), bx) := callOp_of rfl (by simp only [SA, Bool.and_true]) (of_chkStr all_form c) rfl
/-- two hexadecimal digits -/
def hex2 (x y : UInt8) : Nat := (hexV x * 16 + hexV y).toNat
/-- a list of bytes -/
def bys (l : List UInt8) : List PV := l.map fun b => .int .u8 (b.toNat : Int)
theorem bytesOf_bys (l : List UInt8) : bytesOf (bys l) = some l := by
  induction l with
  | nil => rfl
  | cons b r ih =>
    show (bytesOf (bys r)).map (UInt8.ofNat ((b.toNat : Int)).toNat :: ·) = some (b :: r)
    rw [ih, Int.toNat_natCast, UInt8.ofNat_toNat]
    rfl
theorem bys_length (l : List UInt8) : (bys l).length = l.length := by simp [bys]
theorem bys_all (l : List UInt8) : ((bys l).all fun y => y.cells.length == 1) = true := by
  rw [List.all_eq_true]
  intro x hx
  obtain ⟨b, _, rfl⟩ := List.mem_map.1 hx
  rfl
theorem bys_byteV (l : List UInt8) : (bys l).all byteV = true := by
  rw [List.all_eq_true]
  intro x hx
  obtain ⟨b, _, rfl⟩ := List.mem_map.1 hx
  have := UInt8.toNat_lt b
  simp [byteV]
  omega
theorem underL_bys (n : Nat) (l : List UInt8) : underL n (bys l) = true := by
  induction l with
  | nil => rfl
  | cons b r ih => simpa [bys, underL, PV.under] using ih
noncomputable def IB : TypeInfo := (Tryd.prog.info? 5).getD default
/-- what a builder holds: nothing, or bytes -/
def bufV (l : List UInt8) : PV := if l = [] then .nils else .osl 5 (bys l)
theorem truncB_same {n : Nat} {r : CR} {bx : List PBox} (h : bx.length ≤ n) : truncB n r bx = bx := by
  unfold truncB
  split
  · exact List.take_of_length_le h
  · rfl
theorem op_copyCheck (p : PV) (hp : p = .nilp ∨ p = .bp 0 0) (q : PV) (hq : q.under 1 = true) : callOp CC (callL CC) 74 [.bp 0 0] [.cells 104 [p, q]] = some (.ret (.tup []), [.cells 104 [.bp 0 0, q]]) := by
  have hh : CC.hprim 74 = some ccP := rfl
  have hc : callL CC 74 [.bp 0 0] [.cells 104 [p, q]] = some (.ret (.tup []), [.cells 104 [.bp 0 0, q]]) := by
    unfold callL bodyP
    rw [hh]
    rcases hp with rfl | rfl <;> rfl
  unfold callOp
  rw [if_pos (by rfl), hc]
  simp only
  unfold truncB
  split <;> rfl
theorem op_bString (l : List UInt8) (p : PV) : callL CC 69 [.bp 0 0] [.cells 104 [p, bufV l]] = some (.ret (.str l), [.cells 104 [p, if l = [] then .nils else .sl (bys l)]]) := by
  have hh : CC.hprim 69 = some bstrP := rfl
  unfold callL bodyP
  rw [hh]
  unfold bufV
  by_cases h : l = []
  · subst h; rfl
  · rw [if_neg h, if_neg h]
    have h1 : (bys l).isEmpty = false := by cases l with | nil => exact absurd rfl h | cons => rfl
    show Option.map _ (bstrP [.bp 0 0] [.cells 104 [p, .osl 5 (bys l)]]) = _
    unfold bstrP
    simp only [List.getElem?_cons_zero]
    rw [if_pos (show _ ∧ _ from by simp only [h1, bys_byteV l, and_self]), bytesOf_bys]
    rfl
theorem call_op_bString (l : List UInt8) (p : PV) : callOp CC (callL CC) 69 [.bp 0 0] [.cells 104 [p, bufV l]] = some (.ret (.str l), [.cells 104 [p, if l = [] then .nils else .sl (bys l)]]) := by
  unfold callOp
  rw [if_pos (by rfl), op_bString]
  simp only
  rw [truncB_same (by simp)]
theorem zcB : zeroCells CC 104 = some [.nilp, .nils] := by kernel_rfl
/-- the quoted form of a text -/
def quoteL (s : List UInt8) : List UInt8 := 34 :: (s.flatMap formL ++ [34])
theorem form_casesF : ∀ n : _root_.Fin 256, ((n.val = 34 ∨ n.val = 92) ∧ formN n.val = [92, UInt8.ofNat n.val]) ∨ (n.val ≠ 34 ∧ n.val ≠ 92 ∧ formN n.val = [UInt8.ofNat n.val]) ∨ (formN n.val = [92, 120, hexd (n.val / 16), hexd (n.val % 16)] ∧ 0 ≤ hexV (hexd (n.val / 16)) ∧ 0 ≤ hexV (hexd (n.val % 16)) ∧ hex2 (hexd (n.val / 16)) (hexd (n.val % 16)) = n.val) := by decide +kernel
theorem form_cases (c : UInt8) : ((c.toNat = 34 ∨ c.toNat = 92) ∧ formL c = [92, c]) ∨ (c.toNat ≠ 34 ∧ c.toNat ≠ 92 ∧ formL c = [c]) ∨ (∃ a b, formL c = [92, 120, a, b] ∧ 0 ≤ hexV a ∧ 0 ≤ hexV b ∧ hex2 a b = c.toNat) := by
  have h := form_casesF ⟨c.toNat, UInt8.toNat_lt c⟩
  simp only [UInt8.ofNat_toNat] at h
  rcases h with h | h | h
  · exact .inl h
  · exact .inr (.inl h)
  · exact .inr (.inr ⟨_, _, h⟩)
theorem formL_pos (c : UInt8) : 0 < (formL c).length := by
  rcases form_cases c with ⟨h1, h2⟩ | ⟨h1, h2, h3⟩ | ⟨a, b, h1, h2, h3, h4⟩
  · rw [h2]; simp
  · rw [h3]; simp
  · rw [h1]; simp
theorem quoteL_length (t : List UInt8) : (quoteL t).length = (t.flatMap formL).length + 2 := by unfold quoteL; simp
theorem bys_append (a b : List UInt8) : bys (a ++ b) = bys a ++ bys b := by simp [bys]
theorem formL_le (c : UInt8) : (formL c).length ≤ 4 := by
  rcases form_cases c with ⟨h1, h2⟩ | ⟨h1, h2, h3⟩ | ⟨a, b, h1, h2, h3, h4⟩
  · rw [h2]; simp
  · rw [h3]; simp
  · rw [h1]; simp
theorem flat_le (t : List UInt8) : (t.flatMap formL).length ≤ 4 * t.length := by
  induction t with
  | nil => exact Nat.le_refl _
  | cons c t ih => have := formL_le c; rw [List.flatMap_cons, List.length_append, List.length_cons]; omega
theorem ok_strings_Builder_WriteString : fnOK CC Tryd.f67 (Tryd.f67.body.getD .skip) = true := by kernel_rfl
theorem fat_strings_Builder_WriteString : CC.P.funcs[67]? = some Tryd.f67 := by kernel_rfl
theorem ok_names_Quote : fnOK CC Tryd.f48 (Tryd.f48.body.getD .skip) = true := by kernel_rfl
theorem fat_names_Quote : CC.P.funcs[48]? = some Tryd.f48 := by kernel_rfl
def strEl : PV → Option (List PV)
  | .str w => some (bys w)
  | _ => none
theorem ap_str (st : St) (al : List (Nat × Loc)) (s x : Operand) (d : Option Tmp) : appendOn CC st al s x 53 9 d = match appendAt CC st al 5 s, strEl (opd CC st.env x) with
      | some (l, xs), some ys => appK 1 1 5 st al l xs ys d
      | _, _ => none := by
  have h0 : CC.P.underlying 53 = some (.slice 5) := by kernel_rfl
  have h1 : CC.P.underlying 9 = some .string := by kernel_rfl
  have he : CC.P.underlying 5 = some (.int .u8) := by kernel_rfl
  have hi : CC.P.info? 5 = some IB := by kernel_rfl
  have hz : IB.zero = some (.int .u8 0) := by kernel_rfl
  have hs : IB.size = 1 := by kernel_rfl
  have hb : IB.bytes = 1 := by kernel_rfl
  have hzc : (Value.int .u8 0).cells.size = 1 := rfl
  unfold appendOn newElems appK strEl bys
  simp only [h0, hi, h1, he, hz, hs, hb, Option.isNone_some, Bool.false_eq_true, false_or, Option.map_some, hzc, ne_eq, not_true_eq_false, or_false, Nat.one_ne_zero, if_true]
  cases appendAt CC st al 5 s with
  | none => rfl
  | some p =>
    obtain ⟨l, xs⟩ := p
    cases opd CC st.env x <;> rfl
theorem call_WriteString (l w : List UInt8) (hl : l.length + w.length ≤ 900000) (hw : w ≠ []) (p : PV) (hp : p = .nilp ∨ p = .bp 0 0) : callL CC 67 [.bp 0 0, .str w] [.cells 104 [p, bufV l]] =
    some (.ret (.tup [.int .i64 (w.length : Int), .nili]), [.cells 104 [.bp 0 0, .osl 5 (bys (l ++ w))]]) := by
  rw [callL_enter (fn := Tryd.f67) (c := Tryd.f67.body.getD .skip) rfl rfl fat_strings_Builder_WriteString rfl ok_strings_Builder_WriteString (Nat.le_of_ble_eq_true rfl)]
  have hbl := bys_length l
  have hwl := bys_length w
  have hlen := len_str w
  have hq : (bufV l).under 1 = true := by
    unfold bufV
    split
    · rfl
    · simpa [PV.under] using underL_bys 1 l
  have ho := op_copyCheck p hp (bufV l) hq
  have hsn := bys_append l w
  have hok := bys_all w
  have hc : (bys l).length + (bys w).length ≤ 1000000 := by omega
  have hc0 : (bys w).length ≤ 1000000 := by omega
  rw [hsn]
  obtain ⟨ev, eo, so, co, ⟨hev, hco⟩, R⟩ := RULES CC; rw [← hev]
  rw [← hco] at ho
  have hpn : pureL [.bp 0 0] = false := rfl
  simp only [fpart, part', Tryd.f67, Option.getD]
  unfold bufV at *
  by_cases h : l = []
  · subst h
    rw [if_pos rfl] at ho ⊢
    have hb0 : bys [] = [] := rfl
    rw [hb0] at *
    generalize hys : bys w = ys at *
    simp (maxSteps := 5000000) only [SA, SB, SD, R, guardAt, binP, intP, indexAddrP, elemsOf, readCells, lenP, lenAt, resultsP, resultP, oneOr, reduceCtorEq, reduceIte, Nat.reduceEqDiff, Nat.reduceAdd, Nat.zero_add, Nat.reduceMul, Nat.reduceLT, Nat.reduceLeDiff, Int.reduceLT, Int.reduceNeg, Int.reduceLE, appendP, appendAt, letGo, setLoc, locVal, Int.reduceToNat, boxCells, und, TG, SE, ho, hlen, strEl, hys, loadR, loadP, storeR, storeCellsP, laid, lay, setBox, nchP, callAl, List.filter_nil, List.getD_cons_succ, List.getD_cons_zero, ap_str, hok, hc, hc0, List.nil_append, List.length_nil, Nat.zero_add, List.set_cons_zero, List.set_cons_succ, List.take_succ_cons, List.take_zero, List.drop_nil, Nat.le_refl]
    rfl
  · rw [if_neg h] at ho ⊢
    generalize hys : bys w = ys at *
    generalize bys l = xs at *
    simp (maxSteps := 5000000) only [SA, SB, SD, R, guardAt, binP, intP, indexAddrP, elemsOf, readCells, lenP, lenAt, resultsP, resultP, oneOr, reduceCtorEq, reduceIte, Nat.reduceEqDiff, Nat.reduceAdd, Nat.zero_add, Nat.reduceMul, Nat.reduceLT, Nat.reduceLeDiff, Int.reduceLT, Int.reduceNeg, Int.reduceLE, appendP, appendAt, letGo, setLoc, locVal, Int.reduceToNat, boxCells, und, TG, SE, ho, hlen, strEl, hys, loadR, loadP, storeR, storeCellsP, laid, lay, setBox, nchP, callAl, List.filter_nil, List.getD_cons_succ, List.getD_cons_zero, ap_str, hok, hc, List.set_cons_zero, List.set_cons_succ, List.take_succ_cons, List.take_zero, List.drop_nil, Nat.le_refl]
    rfl
theorem call_op_WriteString (l w : List UInt8) (hl : l.length + w.length ≤ 900000) (hw : w ≠ []) (p : PV) (hp : p = .nilp ∨ p = .bp 0 0) : callOp CC (callL CC) 67 [.bp 0 0, .str w] [.cells 104 [p, bufV l]] =
    some (.ret (.tup [.int .i64 (w.length : Int), .nili]), [.cells 104 [.bp 0 0, bufV (l ++ w)]]) := by
  have h := call_WriteString l w hl hw p hp
  unfold callOp
  rw [if_pos (by rfl), h]
  have hb : bufV (l ++ w) = .osl 5 (bys (l ++ w)) := by
    unfold bufV
    rw [if_neg (by simp [hw])]
  rw [hb]
  simp only
  rw [truncB_same (by simp)]
theorem formL_ne (c : UInt8) : formL c ≠ [] := fun h => by have := formL_pos c; rw [h] at this; exact absurd this (by decide)
theorem loop_names_Quote (L : Code) (hL : L = fpart Tryd.f48 [1,1,1,0,1,0]) (s : List UInt8) (hs : s.length ≤ 200000) : ∀ (k i : Nat) (acc : List UInt8) (e : List PV), i + k = s.length → acc.length ≤ 1 + 4 * i → getT e 0 = .str s → getT e 3 = .bp 0 0 → getT e 7 = .int .i64 s.length → getT e 8 = .int .i64 i →
    ∃ e', evL CC L ⟨e, [.cells 104 [.bp 0 0, bufV acc]]⟩ = some (.exit 0, ⟨e', [.cells 104 [.bp 0 0, bufV (acc ++ (s.drop i).flatMap formL)]]⟩) ∧ getT e' 3 = .bp 0 0 := by
  intro k
  induction k with
  | zero =>
    intro i acc e hk ha h0 h3 h7 h8
    rw [evL_at (fpart Tryd.f48 [1,1,1,0,1,0,0]) hL]
    have hi : ¬ ((i : Int) < (s.length : Int)) := by omega
    rw [List.drop_eq_nil_of_le (by omega), List.flatMap_nil, List.append_nil]
    generalize bufV acc = b at *
    obtain ⟨ev, eo, so, co, ⟨hev, hco⟩, R⟩ := RULES CC; rw [← hev]
    simp only [fpart, part', Tryd.f48, Option.getD]
    simp (maxSteps := 5000000) only [SA, SB, SD, R, guardAt, binP, intP, indexAddrP, elemsOf, readCells, lenP, lenAt, resultsP, resultP, oneOr, reduceCtorEq, reduceIte, Nat.reduceEqDiff, Nat.reduceAdd, Nat.zero_add, Nat.reduceMul, Nat.reduceLT, Nat.reduceLeDiff, Int.reduceLT, Int.reduceNeg, Int.reduceLE, appendP, appendAt, letGo, setLoc, locVal, Int.reduceToNat, boxCells, und, TG, SE, h7, h8, hi]
    exact ⟨_, rfl, by simp (maxSteps := 5000000) only [SA, SB, SD, R, guardAt, binP, intP, indexAddrP, elemsOf, readCells, lenP, lenAt, resultsP, resultP, oneOr, reduceCtorEq, reduceIte, Nat.reduceEqDiff, Nat.reduceAdd, Nat.zero_add, Nat.reduceMul, Nat.reduceLT, Nat.reduceLeDiff, Int.reduceLT, Int.reduceNeg, Int.reduceLE, appendP, appendAt, letGo, setLoc, locVal, Int.reduceToNat, boxCells, und, h3]⟩
  | succ k ih =>
    intro i acc e hk ha h0 h3 h7 h8
    rw [evL_at (fpart Tryd.f48 [1,1,1,0,1,0,0]) hL]
    have hi : ((i : Int) < (s.length : Int)) := by omega
    have hdr : s.drop i = (s[i]'(by omega)) :: s.drop (i + 1) := List.drop_eq_getElem_cons (by omega)
    have hx : s[i]? = some (s[i]'(by omega)) := by simp
    generalize s[i]'(by omega) = c at *
    have hix := ix_str s i c hx
    have hf := op_names_form c
    have hle := formL_le c
    have hwr := call_op_WriteString acc (formL c) (by omega) (formL_ne c) (.bp 0 0) (.inr rfl)
    have w1 := wrap_i64 (n := (i : Int) + 1) ⟨by omega, by omega⟩
    have cast1 : ((i + 1 : Nat) : Int) = (i : Int) + 1 := by omega
    have key := fun e => ih (i + 1) (acc ++ formL c) e (by omega) (by rw [List.length_append]; omega)
    rw [cast1] at key
    rw [hdr, List.flatMap_cons, ← List.append_assoc]
    generalize formL c = f at *
    generalize bufV (acc ++ f ++ (s.drop (i + 1)).flatMap formL) = b2 at *
    generalize bufV (acc ++ f) = b1 at *
    generalize bufV acc = b at *
    obtain ⟨ev, eo, so, co, ⟨hev, hco⟩, R⟩ := RULES CC; rw [← hev]
    rw [← hev] at key
    rw [← hco] at hf hwr
    simp only [fpart, part', Tryd.f48, Option.getD]
    simp (maxSteps := 5000000) only [SA, SB, SD, R, guardAt, binP, intP, indexAddrP, elemsOf, readCells, lenP, lenAt, resultsP, resultP, oneOr, reduceCtorEq, reduceIte, Nat.reduceEqDiff, Nat.reduceAdd, Nat.zero_add, Nat.reduceMul, Nat.reduceLT, Nat.reduceLeDiff, Int.reduceLT, Int.reduceNeg, Int.reduceLE, appendP, appendAt, letGo, setLoc, locVal, Int.reduceToNat, boxCells, und, TG, SE, h0, h3, h7, h8, hi, hix, hf, hwr, w1]
    refine key _ ?_ ?_ ?_ ?_
    · simp (maxSteps := 5000000) only [SA, SB, SD, R, guardAt, binP, intP, indexAddrP, elemsOf, readCells, lenP, lenAt, resultsP, resultP, oneOr, reduceCtorEq, reduceIte, Nat.reduceEqDiff, Nat.reduceAdd, Nat.zero_add, Nat.reduceMul, Nat.reduceLT, Nat.reduceLeDiff, Int.reduceLT, Int.reduceNeg, Int.reduceLE, appendP, appendAt, letGo, setLoc, locVal, Int.reduceToNat, boxCells, und, h0]
    · simp (maxSteps := 5000000) only [SA, SB, SD, R, guardAt, binP, intP, indexAddrP, elemsOf, readCells, lenP, lenAt, resultsP, resultP, oneOr, reduceCtorEq, reduceIte, Nat.reduceEqDiff, Nat.reduceAdd, Nat.zero_add, Nat.reduceMul, Nat.reduceLT, Nat.reduceLeDiff, Int.reduceLT, Int.reduceNeg, Int.reduceLE, appendP, appendAt, letGo, setLoc, locVal, Int.reduceToNat, boxCells, und, h3]
    · simp (maxSteps := 5000000) only [SA, SB, SD, R, guardAt, binP, intP, indexAddrP, elemsOf, readCells, lenP, lenAt, resultsP, resultP, oneOr, reduceCtorEq, reduceIte, Nat.reduceEqDiff, Nat.reduceAdd, Nat.zero_add, Nat.reduceMul, Nat.reduceLT, Nat.reduceLeDiff, Int.reduceLT, Int.reduceNeg, Int.reduceLE, appendP, appendAt, letGo, setLoc, locVal, Int.reduceToNat, boxCells, und, h7]
    · simp (maxSteps := 5000000) only [SA, SB, SD, R, guardAt, binP, intP, indexAddrP, elemsOf, readCells, lenP, lenAt, resultsP, resultP, oneOr, reduceCtorEq, reduceIte, Nat.reduceEqDiff, Nat.reduceAdd, Nat.zero_add, Nat.reduceMul, Nat.reduceLT, Nat.reduceLeDiff, Int.reduceLT, Int.reduceNeg, Int.reduceLE, appendP, appendAt, letGo, setLoc, locVal, Int.reduceToNat, boxCells, und]
theorem call_names_Quote (s : List UInt8) (hs : s.length ≤ 200000) : ∃ bx, callL CC 48 [.str s] [] = some (.ret (.str (quoteL s)), bx) := by
  rw [callL_enter (fn := Tryd.f48) (c := Tryd.f48.body.getD .skip) rfl rfl fat_names_Quote rfl ok_names_Quote (Nat.le_of_ble_eq_true rfl)]
  have hlen := len_str s
  have hfl := flat_le s
  have hb0 : bufV [] = .nils := rfl
  have w0 := call_op_WriteString [] [34] (by simp) (by simp) .nilp (.inl rfl)
  rw [hb0, List.nil_append] at w0
  have hloop := fun e => loop_names_Quote _ rfl s hs s.length 0 [34] e (by omega) (by simp)
  rw [List.drop_zero] at hloop
  have w9 := call_op_WriteString ([34] ++ s.flatMap formL) [34] (by simp only [List.length_append, List.length_singleton]; omega) (by simp) (.bp 0 0) (.inr rfl)
  have hq : [34] ++ s.flatMap formL ++ [34] = quoteL s := by unfold quoteL; simp
  rw [hq] at w9
  have hst := call_op_bString (quoteL s) (.bp 0 0)
  generalize quoteL s = q at *
  generalize bufV ([34] ++ s.flatMap formL) = b2 at *
  generalize bufV [34] = b1 at *
  generalize bufV q = b3 at *
  obtain ⟨ev, eo, so, co, ⟨hev, hco⟩, R⟩ := RULES CC; rw [← hev]
  rw [← hev] at hloop
  rw [← hco] at w0 w9 hst
  simp only [fpart, part', Tryd.f48, Option.getD] at hloop ⊢
  simp (maxSteps := 5000000) only [SA, SB, SD, R, guardAt, binP, intP, indexAddrP, elemsOf, readCells, lenP, lenAt, resultsP, resultP, oneOr, reduceCtorEq, reduceIte, Nat.reduceEqDiff, Nat.reduceAdd, Nat.zero_add, Nat.reduceMul, Nat.reduceLT, Nat.reduceLeDiff, Int.reduceLT, Int.reduceNeg, Int.reduceLE, appendP, appendAt, letGo, setLoc, locVal, Int.reduceToNat, boxCells, und, TG, SE, SC, zcB, hlen, w0]
  generalize hE : ev _ _ = z
  have hP : ∃ e', z = some (.exit 0, ⟨e', [.cells 104 [.bp 0 0, b2]]⟩) ∧ getT e' 3 = .bp 0 0 := by
    rw [← hE]
    refine hloop _ ?_ ?_ ?_ ?_
    · simp (maxSteps := 5000000) only [SA, SB, SD, R, guardAt, binP, intP, indexAddrP, elemsOf, readCells, lenP, lenAt, resultsP, resultP, oneOr, reduceCtorEq, reduceIte, Nat.reduceEqDiff, Nat.reduceAdd, Nat.zero_add, Nat.reduceMul, Nat.reduceLT, Nat.reduceLeDiff, Int.reduceLT, Int.reduceNeg, Int.reduceLE, appendP, appendAt, letGo, setLoc, locVal, Int.reduceToNat, boxCells, und]
    · simp (maxSteps := 5000000) only [SA, SB, SD, R, guardAt, binP, intP, indexAddrP, elemsOf, readCells, lenP, lenAt, resultsP, resultP, oneOr, reduceCtorEq, reduceIte, Nat.reduceEqDiff, Nat.reduceAdd, Nat.zero_add, Nat.reduceMul, Nat.reduceLT, Nat.reduceLeDiff, Int.reduceLT, Int.reduceNeg, Int.reduceLE, appendP, appendAt, letGo, setLoc, locVal, Int.reduceToNat, boxCells, und]
    · simp (maxSteps := 5000000) only [SA, SB, SD, R, guardAt, binP, intP, indexAddrP, elemsOf, readCells, lenP, lenAt, resultsP, resultP, oneOr, reduceCtorEq, reduceIte, Nat.reduceEqDiff, Nat.reduceAdd, Nat.zero_add, Nat.reduceMul, Nat.reduceLT, Nat.reduceLeDiff, Int.reduceLT, Int.reduceNeg, Int.reduceLE, appendP, appendAt, letGo, setLoc, locVal, Int.reduceToNat, boxCells, und]
    · simp (maxSteps := 5000000) only [SA, SB, SD, R, guardAt, binP, intP, indexAddrP, elemsOf, readCells, lenP, lenAt, resultsP, resultP, oneOr, reduceCtorEq, reduceIte, Nat.reduceEqDiff, Nat.reduceAdd, Nat.zero_add, Nat.reduceMul, Nat.reduceLT, Nat.reduceLeDiff, Int.reduceLT, Int.reduceNeg, Int.reduceLE, appendP, appendAt, letGo, setLoc, locVal, Int.reduceToNat, boxCells, und]; rfl
  obtain ⟨e', he, g3⟩ := hP
  subst he
  simp (maxSteps := 5000000) only [SA, SB, SD, R, guardAt, binP, intP, indexAddrP, elemsOf, readCells, lenP, lenAt, resultsP, resultP, oneOr, reduceCtorEq, reduceIte, Nat.reduceEqDiff, Nat.reduceAdd, Nat.zero_add, Nat.reduceMul, Nat.reduceLT, Nat.reduceLeDiff, Int.reduceLT, Int.reduceNeg, Int.reduceLE, appendP, appendAt, letGo, setLoc, locVal, Int.reduceToNat, boxCells, und, TG, SE, g3, w9, hst]
  exact ⟨_, rfl⟩
theorem op_names_Quote (s : List UInt8) (hs : s.length ≤ 200000) (bx) : callOp CC (callL CC) 48 [.str s] bx = some (.ret (.str (quoteL s)), bx) := by
  obtain ⟨b, h⟩ := call_names_Quote s hs
  exact callOp_of rfl (by simp only [SA, Bool.and_true]) h rfl
theorem ok_num_Digits : fnOK CC Tryd.f24 (Tryd.f24.body.getD .skip) = true := by kernel_rfl
theorem fat_num_Digits : CC.P.funcs[24]? = some Tryd.f24 := by kernel_rfl
theorem itoa_length {n : Int} (h : inI n) : (Lib.itoa n).length ≤ 21 := by
  have key : ∀ u : Nat, u ≤ 9223372036854775808 → (Lib.decDigits u).length ≤ 20 := by
    intro u hu
    rw [Lib.decDigits_length]
    rcases Nat.lt_or_ge 20 (Lib.nDigits u) with h | h
    · exfalso
      have hp : 10 ^ 20 ≤ 10 ^ (Lib.nDigits u - 1) := Nat.pow_le_pow_right (by omega) (by omega)
      have : 10 ^ (Lib.nDigits u - 1) ≤ u := by
        have gen : ∀ v : Nat, 1 ≤ v → 10 ^ (Lib.nDigits v - 1) ≤ v := by
          intro v
          induction v using Nat.strongRecOn with
          | _ v ih =>
            intro hv
            by_cases hs : v < 10
            · rw [Lib.nDigits_small hs]; simpa using hv
            · rw [Lib.nDigits_big hs, Nat.add_sub_cancel]
              have h1 := ih (v / 10) (by omega) (by omega)
              have h2 : Lib.nDigits (v / 10) = Lib.nDigits (v / 10) - 1 + 1 := by have := Lib.nDigits_pos (v / 10); omega
              rw [h2, Nat.pow_succ]
              omega
        apply gen
        rcases Nat.eq_zero_or_pos u with hz | hz
        · subst hz; rw [Lib.nDigits_small (by omega)] at h; omega
        · exact hz
      omega
    · exact h
  unfold Lib.itoa
  split
  · have := key n.natAbs (by omega)
    simp only [List.length_cons]
    omega
  · have := key n.toNat (by omega)
    omega
theorem call_num_Digits (n : Int) (h : inI n) : callL CC 24 [.int .i64 n] [] = some (.ret (.str (Lib.itoa n)), []) := by
  rw [callL_enter (fn := Tryd.f24) (c := Tryd.f24.body.getD .skip) rfl rfl fat_num_Digits rfl ok_num_Digits (Nat.le_of_ble_eq_true rfl)]
  obtain ⟨ev, eo, so, co, ⟨hev, hco⟩, R⟩ := RULES CC; rw [← hev]; have o_strconv_Itoa := @op_strconv_Itoa; rw [← hco] at o_strconv_Itoa
  have h1 := o_strconv_Itoa n h
  simp only [fpart, part', Tryd.f24, Option.getD]
  simp (maxSteps := 5000000) only [SA, SB, SD, R, guardAt, binP, intP, indexAddrP, elemsOf, readCells, lenP, lenAt, resultsP, resultP, oneOr, reduceCtorEq, reduceIte, Nat.reduceEqDiff, Nat.reduceAdd, Nat.zero_add, Nat.reduceMul, Nat.reduceLT, Nat.reduceLeDiff, Int.reduceLT, Int.reduceNeg, Int.reduceLE, appendP, appendAt, letGo, setLoc, locVal, Int.reduceToNat, boxCells, und, TG, h1]
theorem op_num_Digits (n : Int) (h : inI n) (bx) : callOp CC (callL CC) 24 [.int .i64 n] bx = some (.ret (.str (Lib.itoa n)), bx) := callOp_of rfl (by simp only [SA, Bool.and_true]) (call_num_Digits n h) rfl
theorem str_add {a b : List UInt8} (h : a.length + b.length ≤ 1000000) : strP .add a b = some (.str (a ++ b)) := by
  unfold strP maxStr
  simp only
  rw [if_pos (by omega)]
def isD (c : UInt8) : Bool := decide (48 ≤ c.toNat) && decide (c.toNat ≤ 57)
/-- the digits of the reference's loop -/
def pr : List UInt8 → Int → Option Int
  | [], n => some n
  | c :: r, n => if isD c then pr r (10 * n + ((c.toNat : Int) - 48)) else none
theorem ok_value_Print : fnOK CC Tryd.f55 (Tryd.f55.body.getD .skip) = true := by kernel_rfl
theorem fat_value_Print : CC.P.funcs[55]? = some Tryd.f55 := by kernel_rfl
def sN : List UInt8 := [110, 111, 110, 101]
def sT : List UInt8 := [116, 114, 117, 101]
def sF : List UInt8 := [102, 97, 108, 115, 101]
/-- the text of a value -/
def prV (v : Vl) : List UInt8 := if ckV v ≠ 0 then [] else if v.1 = 0 then sN else if v.1 = 1 then (if v.2.1 = 1 then sT else sF) else if v.1 = 2 then Lib.itoa v.2.1 else if v.1 = 3 then 35 :: Lib.itoa v.2.1 else quoteL v.2.2
theorem ck_len {v : Vl} (h : ckV v = 0) : v.2.2.length ≤ 60 ∧ (v.1 = 0 ∨ v.1 = 1 ∨ v.1 = 2 ∨ v.1 = 3 ∨ v.1 = 4) ∧ (v.1 ≠ 4 → v.2.2 = []) := by
  obtain ⟨k, n, s⟩ := v
  unfold ckV at h
  simp only at h ⊢
  cases ho : okN k n with
  | none => rw [ho] at h; cases h
  | some b =>
    rw [ho] at h
    cases b with
    | false => cases h
    | true =>
      simp only at h
      by_cases hl : 60 < s.length
      · rw [if_pos hl] at h; cases h
      · rw [if_neg hl] at h
        refine ⟨by omega, ?_, fun k4 => ?_⟩
        · unfold okN at ho
          by_cases e0 : k = 0 ∨ k = 4
          · omega
          · rw [if_neg e0] at ho
            by_cases e1 : k = 1
            · omega
            · rw [if_neg e1] at ho
              by_cases e2 : k = 2
              · omega
              · rw [if_neg e2] at ho
                by_cases e3 : k = 3
                · omega
                · rw [if_neg e3] at ho; cases ho
        · by_cases hs : s = []
          · exact hs
          · rw [if_pos ⟨hs, k4⟩] at h; cases h

theorem call_value_Print (v : Vl) (hn : inI v.2.1) : ∃ bx, callL CC 55 [vlV v] [] = some (.ret (.str (prV v)), bx) := by
  rw [callL_enter (fn := Tryd.f55) (c := Tryd.f55.body.getD .skip) rfl rfl fat_value_Print rfl ok_value_Print (Nat.le_of_ble_eq_true rfl)]
  have hc := op_value_Check v
  have hcl := ck_len (v := v)
  have hd := op_num_Digits v.2.1 hn
  have hil := itoa_length hn
  have hadd := str_add (a := [35]) (b := Lib.itoa v.2.1) (by simp only [List.length_singleton]; omega)
  have hq := fun h => op_names_Quote v.2.2 h
  obtain ⟨tu, htu⟩ := VLs
  unfold prV
  by_cases c0 : ckV v = 0
  · rw [if_neg (fun h => h c0)]
    rw [c0] at hc
    obtain ⟨l1, l2, _⟩ := hcl c0
    have hq := hq (by omega)
    clear hcl
    obtain ⟨k, n, s⟩ := v
    unfold vlV at *
    simp only at *
    generalize Lib.itoa n = d at *
    generalize quoteL s = q at *
    rcases l2 with rfl | rfl | rfl | rfl | rfl
    · rw [if_pos rfl]
      have hN : sN = [110, 111, 110, 101] := rfl
      rw [hN]
      obtain ⟨ev, eo, so, co, ⟨hev, hco⟩, R⟩ := RULES CC; rw [← hev]
      rw [← hco] at hc hd hq
      simp only [fpart, part', Tryd.f55, Option.getD]
      simp (maxSteps := 5000000) only [SA, SB, SD, R, guardAt, binP, intP, indexAddrP, elemsOf, readCells, lenP, lenAt, resultsP, resultP, oneOr, reduceCtorEq, reduceIte, Nat.reduceEqDiff, Nat.reduceAdd, Nat.zero_add, Nat.reduceMul, Nat.reduceLT, Nat.reduceLeDiff, Int.reduceLT, Int.reduceNeg, Int.reduceLE, appendP, appendAt, letGo, setLoc, locVal, Int.reduceToNat, boxCells, und, TG, SE, SC, unP, htu, loadR, loadP, lay, List.take_succ_cons, List.take_zero, List.drop_nil, List.filter_nil, List.cons_append, Int.reduceBEq, Int.reduceBNe, Int.reduceGT, Int.reduceGE, Bool.not_true, Bool.not_false, hc]
      exact ⟨_, rfl⟩
    · rw [if_neg (by decide), if_pos rfl]
      by_cases n1 : n = 1
      · have n1p : (n == 1) = true := by simp [n1]
        rw [if_pos n1]
        have hN : sT = [116, 114, 117, 101] := rfl
        rw [hN]
        obtain ⟨ev, eo, so, co, ⟨hev, hco⟩, R⟩ := RULES CC; rw [← hev]
        rw [← hco] at hc hd hq
        simp only [fpart, part', Tryd.f55, Option.getD]
        simp (maxSteps := 5000000) only [SA, SB, SD, R, guardAt, binP, intP, indexAddrP, elemsOf, readCells, lenP, lenAt, resultsP, resultP, oneOr, reduceCtorEq, reduceIte, Nat.reduceEqDiff, Nat.reduceAdd, Nat.zero_add, Nat.reduceMul, Nat.reduceLT, Nat.reduceLeDiff, Int.reduceLT, Int.reduceNeg, Int.reduceLE, appendP, appendAt, letGo, setLoc, locVal, Int.reduceToNat, boxCells, und, TG, SE, SC, unP, htu, loadR, loadP, lay, List.take_succ_cons, List.take_zero, List.drop_nil, List.filter_nil, List.cons_append, Int.reduceBEq, Int.reduceBNe, Int.reduceGT, Int.reduceGE, Bool.not_true, Bool.not_false, hc, n1p]
        exact ⟨_, rfl⟩
      · have n1p : (n == 1) = false := by simpa using n1
        rw [if_neg n1]
        have hN : sF = [102, 97, 108, 115, 101] := rfl
        rw [hN]
        obtain ⟨ev, eo, so, co, ⟨hev, hco⟩, R⟩ := RULES CC; rw [← hev]
        rw [← hco] at hc hd hq
        simp only [fpart, part', Tryd.f55, Option.getD]
        simp (maxSteps := 5000000) only [SA, SB, SD, R, guardAt, binP, intP, indexAddrP, elemsOf, readCells, lenP, lenAt, resultsP, resultP, oneOr, reduceCtorEq, reduceIte, Nat.reduceEqDiff, Nat.reduceAdd, Nat.zero_add, Nat.reduceMul, Nat.reduceLT, Nat.reduceLeDiff, Int.reduceLT, Int.reduceNeg, Int.reduceLE, appendP, appendAt, letGo, setLoc, locVal, Int.reduceToNat, boxCells, und, TG, SE, SC, unP, htu, loadR, loadP, lay, List.take_succ_cons, List.take_zero, List.drop_nil, List.filter_nil, List.cons_append, Int.reduceBEq, Int.reduceBNe, Int.reduceGT, Int.reduceGE, Bool.not_true, Bool.not_false, hc, n1p]
        exact ⟨_, rfl⟩
    · rw [if_neg (by decide), if_neg (by decide), if_pos rfl]
      obtain ⟨ev, eo, so, co, ⟨hev, hco⟩, R⟩ := RULES CC; rw [← hev]
      rw [← hco] at hc hd hq
      simp only [fpart, part', Tryd.f55, Option.getD]
      simp (maxSteps := 5000000) only [SA, SB, SD, R, guardAt, binP, intP, indexAddrP, elemsOf, readCells, lenP, lenAt, resultsP, resultP, oneOr, reduceCtorEq, reduceIte, Nat.reduceEqDiff, Nat.reduceAdd, Nat.zero_add, Nat.reduceMul, Nat.reduceLT, Nat.reduceLeDiff, Int.reduceLT, Int.reduceNeg, Int.reduceLE, appendP, appendAt, letGo, setLoc, locVal, Int.reduceToNat, boxCells, und, TG, SE, SC, unP, htu, loadR, loadP, lay, List.take_succ_cons, List.take_zero, List.drop_nil, List.filter_nil, List.cons_append, Int.reduceBEq, Int.reduceBNe, Int.reduceGT, Int.reduceGE, Bool.not_true, Bool.not_false, hc, hd]
      exact ⟨_, rfl⟩
    · rw [if_neg (by decide), if_neg (by decide), if_neg (by decide), if_pos rfl]
      rw [show (35 :: d : List UInt8) = [35] ++ d from rfl]
      generalize [35] ++ d = d2 at *
      obtain ⟨ev, eo, so, co, ⟨hev, hco⟩, R⟩ := RULES CC; rw [← hev]
      rw [← hco] at hc hd hq
      simp only [fpart, part', Tryd.f55, Option.getD]
      simp (maxSteps := 5000000) only [SA, SB, SD, R, guardAt, binP, intP, indexAddrP, elemsOf, readCells, lenP, lenAt, resultsP, resultP, oneOr, reduceCtorEq, reduceIte, Nat.reduceEqDiff, Nat.reduceAdd, Nat.zero_add, Nat.reduceMul, Nat.reduceLT, Nat.reduceLeDiff, Int.reduceLT, Int.reduceNeg, Int.reduceLE, appendP, appendAt, letGo, setLoc, locVal, Int.reduceToNat, boxCells, und, TG, SE, SC, unP, htu, loadR, loadP, lay, List.take_succ_cons, List.take_zero, List.drop_nil, List.filter_nil, List.cons_append, Int.reduceBEq, Int.reduceBNe, Int.reduceGT, Int.reduceGE, Bool.not_true, Bool.not_false, hc, hd, hadd]
      exact ⟨_, rfl⟩
    · rw [if_neg (by decide), if_neg (by decide), if_neg (by decide), if_neg (by decide)]
      obtain ⟨ev, eo, so, co, ⟨hev, hco⟩, R⟩ := RULES CC; rw [← hev]
      rw [← hco] at hc hd hq
      simp only [fpart, part', Tryd.f55, Option.getD]
      simp (maxSteps := 5000000) only [SA, SB, SD, R, guardAt, binP, intP, indexAddrP, elemsOf, readCells, lenP, lenAt, resultsP, resultP, oneOr, reduceCtorEq, reduceIte, Nat.reduceEqDiff, Nat.reduceAdd, Nat.zero_add, Nat.reduceMul, Nat.reduceLT, Nat.reduceLeDiff, Int.reduceLT, Int.reduceNeg, Int.reduceLE, appendP, appendAt, letGo, setLoc, locVal, Int.reduceToNat, boxCells, und, TG, SE, SC, unP, htu, loadR, loadP, lay, List.take_succ_cons, List.take_zero, List.drop_nil, List.filter_nil, List.cons_append, Int.reduceBEq, Int.reduceBNe, Int.reduceGT, Int.reduceGE, Bool.not_true, Bool.not_false, hc, hq]
      exact ⟨_, rfl⟩
  · rw [if_pos c0]
    have c0p : (ckV v != 0) = true := by simpa using c0
    generalize ckV v = c at *
    unfold vlV at *
    obtain ⟨ev, eo, so, co, ⟨hev, hco⟩, R⟩ := RULES CC; rw [← hev]
    rw [← hco] at hc
    simp only [fpart, part', Tryd.f55, Option.getD]
    simp (maxSteps := 5000000) only [SA, SB, SD, R, guardAt, binP, intP, indexAddrP, elemsOf, readCells, lenP, lenAt, resultsP, resultP, oneOr, reduceCtorEq, reduceIte, Nat.reduceEqDiff, Nat.reduceAdd, Nat.zero_add, Nat.reduceMul, Nat.reduceLT, Nat.reduceLeDiff, Int.reduceLT, Int.reduceNeg, Int.reduceLE, appendP, appendAt, letGo, setLoc, locVal, Int.reduceToNat, boxCells, und, TG, SE, SC, unP, htu, loadR, loadP, lay, List.take_succ_cons, List.take_zero, List.drop_nil, List.filter_nil, List.cons_append, Int.reduceBEq, Int.reduceBNe, Int.reduceGT, Int.reduceGE, Bool.not_true, Bool.not_false, hc, c0p]
    exact ⟨_, rfl⟩
theorem op_value_Print (v : Vl) (hn : inI v.2.1) (bx) : callOp CC (callL CC) 55 [vlV v] bx = some (.ret (.str (prV v)), bx) := by
  obtain ⟨b, h⟩ := call_value_Print v hn
  exact callOp_of rfl rfl h rfl
set_option maxHeartbeats 4000000
/-- one text behind another -/
def cat (a b : List UInt8) : List UInt8 := a ++ b
theorem cat_len (a b : List UInt8) : (cat a b).length = a.length + b.length := List.length_append
theorem catA {a b : List UInt8} (h : a.length + b.length ≤ 2 ^ 60) : strP .add a b = some (.str (cat a b)) := if_pos h
def dig (n : Nat) : UInt8 := UInt8.ofNat (48 + n)
def dayW : List (List UInt8) := [[109, 111, 110], [116, 117, 101], [119, 101, 100], [116, 104, 117], [102, 114, 105], [115, 97, 116], [115, 117, 110]]
def dayL : Nat → List (List UInt8) → List UInt8
  | _, [] => []
  | m, w :: r => if m % 2 = 1 then (if m / 2 = 0 then w else w ++ 44 :: dayL (m / 2) r) else dayL (m / 2) r
def dayN (m : Nat) : List UInt8 := [100, 97, 121, 115, 32] ++ dayL m dayW
/-- what a function of a number returns, for a number that is known -/
noncomputable def chkW (f : FuncId) (g : Nat → List UInt8) (n : Nat) : Bool := match callF CC 80 f [.int .i64 (n : Int)] [] with
  | some (.ret (.str s), _) => s == g n
  | _ => false
theorem of_chkW {f : FuncId} {g : Nat → List UInt8} {l : List Nat} (h : l.all (chkW f g) = true) (n : Nat) (hn : n ∈ l) : ∃ bx, callL CC f [.int .i64 (n : Int)] [] = some (.ret (.str (g n)), bx) := by
  have := List.all_eq_true.1 h n hn
  unfold chkW at this
  split at this
  · rename_i s bx hs
    have e : s = g n := by simpa using this
    subst e
    exact ⟨_, callL_iff.2 ⟨80, hs⟩⟩
  · cases this
theorem all_days : ((List.range 127).map (· + 1)).all (chkW 47 dayN) = true := by kernel_rfl
theorem op_days (n : Int) (h : 1 ≤ n ∧ n ≤ 127) (bx) : callOp CC (callL CC) 47 [.int .i64 n] bx = some (.ret (.str (dayN n.toNat)), bx) := by
  obtain ⟨b, hc⟩ := of_chkW all_days n.toNat (List.mem_map.2 ⟨n.toNat - 1, List.mem_range.2 (by omega), by omega⟩)
  rw [show ((n.toNat : Nat) : Int) = n by omega] at hc
  exact callOp_of rfl rfl hc rfl
def twoN (n : Nat) : List UInt8 := [dig (n / 10), dig (n % 10)]
theorem all_two : (List.range 60).all (chkW 66 twoN) = true := by kernel_rfl
theorem op_two (n : Nat) (h : n < 60) (bx) : callOp CC (callL CC) 66 [.int .i64 (n : Int)] bx = some (.ret (.str (twoN n)), bx) := by
  obtain ⟨b, hc⟩ := of_chkW all_two n (List.mem_range.2 h)
  exact callOp_of rfl rfl hc rfl
def clkT (n : Nat) : List UInt8 := [dig (n / 60 / 10), dig (n / 60 % 10), 58, dig (n % 60 / 10), dig (n % 60 % 10)]
theorem quo_nat (n k : Nat) : ((n : Int).tdiv (k : Int)) = ((n / k : Nat) : Int) := by rw [Int.tdiv_eq_ediv_of_nonneg (by omega)]; rfl
theorem rem_nat (n k : Nat) : ((n : Int).tmod (k : Int)) = ((n % k : Nat) : Int) := by rw [Int.tmod_eq_emod_of_nonneg (by omega)]; rfl
theorem ok_print_clock : fnOK CC Tryd.f46 (Tryd.f46.body.getD .skip) = true := by kernel_rfl
theorem fat_print_clock : CC.P.funcs[46]? = some Tryd.f46 := by kernel_rfl
theorem ok_print_dotted : fnOK CC Tryd.f45 (Tryd.f45.body.getD .skip) = true := by kernel_rfl
theorem fat_print_dotted : CC.P.funcs[45]? = some Tryd.f45 := by kernel_rfl
theorem FNi : ∃ a b v, CC.P.underlying 68 = some (.func a b v) := by
  have h : (match Tryd.prog.underlying 68 with | some (.func _ _ _) => true | _ => false) = true := by kernel_rfl
  split at h
  · rename_i a b v e; exact ⟨a, b, v, e⟩
  · cases h
theorem call_clock (n : Nat) (h : n < 1440) : ∃ bx, callL CC 46 [.int .i64 (n : Int)] [] = some (.ret (.str (clkT n)), bx) := by
  have o1 := op_two (n / 60) (by omega)
  have o2 := op_two (n % 60) (by omega)
  have q1 := quo_nat n 60
  have q2 := rem_nat n 60
  have w1 := wrap_i64 (n := ((n / 60 : Nat) : Int)) ⟨by omega, by omega⟩
  have w2 := wrap_i64 (n := ((n % 60 : Nat) : Int)) ⟨by omega, by omega⟩
  have c1 := catA (a := twoN (n / 60)) (b := [58]) (by simp [twoN])
  have c2 := catA (a := cat (twoN (n / 60)) [58]) (b := twoN (n % 60)) (by simp [twoN, cat])
  have e : clkT n = cat (cat (twoN (n / 60)) [58]) (twoN (n % 60)) := rfl
  have k60 : ((60 : Nat) : Int) = 60 := rfl
  rw [k60] at q1 q2
  rw [e]
  obtain ⟨tu, htu⟩ := VLs
  obtain ⟨fa, fb, fv, hfn⟩ := FNi
  generalize twoN (n / 60) = s1 at *
  generalize twoN (n % 60) = s2 at *
  generalize ((n / 60 : Nat) : Int) = x1 at *
  generalize ((n % 60 : Nat) : Int) = x2 at *
  rw [callL_enter (fn := Tryd.f46) (c := Tryd.f46.body.getD .skip) rfl rfl fat_print_clock rfl ok_print_clock (Nat.le_of_ble_eq_true rfl)]
  obtain ⟨ev, eo, so, co, ⟨hev, hco⟩, R⟩ := RULES CC; rw [← hev]
  rw [← hco] at o1 o2
  simp only [fpart, part', Tryd.f46, Option.getD]
  simp (maxSteps := 5000000) only [SA, SB, SD, R, guardAt, binP, intP, indexAddrP, elemsOf, readCells, lenP, lenAt, resultsP, resultP, oneOr, reduceCtorEq, reduceIte, Nat.reduceEqDiff, Nat.reduceAdd, Nat.zero_add, Nat.reduceMul, Nat.reduceLT, Nat.reduceLeDiff, Int.reduceLT, Int.reduceNeg, Int.reduceLE, appendP, appendAt, letGo, setLoc, locVal, Int.reduceToNat, boxCells, und, TG, SE, SC, dynR, callAl, hfn, htu, unP, List.getElem?_cons_zero, List.getElem?_cons_succ, List.nil_append, List.append_nil, List.map_nil, Int.reduceBEq, Int.reduceBNe, Int.reduceGT, Int.reduceGE, Int.reduceEq, Bool.not_true, Bool.not_false, o1, o2, q1, q2, w1, w2, c1, c2]
  exact ⟨_, rfl⟩
theorem op_clock (n : Int) (h : 0 ≤ n ∧ n < 1440) (bx) : callOp CC (callL CC) 46 [.int .i64 n] bx = some (.ret (.str (clkT n.toNat)), bx) := by
  obtain ⟨b, hc⟩ := call_clock n.toNat (by omega)
  rw [show ((n.toNat : Nat) : Int) = n by omega] at hc
  exact callOp_of rfl rfl hc rfl
def dotT (d : Int) (a b : List UInt8) : List UInt8 := cat (cat (cat (cat (Lib.itoa d) [46]) a) [46]) b
theorem call_dotted (d : Int) (a b : List UInt8) (h : inI d) (ha : a.length ≤ 1000) (hb : b.length ≤ 1000) : ∃ bx, callL CC 45 [.int .i64 d, .str a, .str b] [] = some (.ret (.str (dotT d a b)), bx) := by
  have o1 := op_num_Digits d h
  have hl := itoa_length h
  unfold dotT
  generalize Lib.itoa d = s at *
  have c1 := catA (a := s) (b := [46]) (by simp only [List.length_singleton]; omega)
  have c2 := catA (a := cat s [46]) (b := a) (by simp only [cat_len, List.length_singleton]; omega)
  have c3 := catA (a := cat (cat s [46]) a) (b := [46]) (by simp only [cat_len, List.length_singleton]; omega)
  have c4 := catA (a := cat (cat (cat s [46]) a) [46]) (b := b) (by simp only [cat_len, List.length_singleton]; omega)
  obtain ⟨tu, htu⟩ := VLs
  obtain ⟨fa, fb, fv, hfn⟩ := FNi
  rw [callL_enter (fn := Tryd.f45) (c := Tryd.f45.body.getD .skip) rfl rfl fat_print_dotted rfl ok_print_dotted (Nat.le_of_ble_eq_true rfl)]
  obtain ⟨ev, eo, so, co, ⟨hev, hco⟩, R⟩ := RULES CC; rw [← hev]
  rw [← hco] at o1
  simp only [fpart, part', Tryd.f45, Option.getD]
  simp (maxSteps := 5000000) only [SA, SB, SD, R, guardAt, binP, intP, indexAddrP, elemsOf, readCells, lenP, lenAt, resultsP, resultP, oneOr, reduceCtorEq, reduceIte, Nat.reduceEqDiff, Nat.reduceAdd, Nat.zero_add, Nat.reduceMul, Nat.reduceLT, Nat.reduceLeDiff, Int.reduceLT, Int.reduceNeg, Int.reduceLE, appendP, appendAt, letGo, setLoc, locVal, Int.reduceToNat, boxCells, und, TG, SE, SC, dynR, callAl, hfn, htu, unP, List.getElem?_cons_zero, List.getElem?_cons_succ, List.nil_append, List.append_nil, List.map_nil, Int.reduceBEq, Int.reduceBNe, Int.reduceGT, Int.reduceGE, Int.reduceEq, Bool.not_true, Bool.not_false, o1, c1, c2, c3, c4]
  exact ⟨_, rfl⟩
theorem op_dotted (d : Int) (a b : List UInt8) (h : inI d) (ha : a.length ≤ 1000) (hb : b.length ≤ 1000) (bx) : callOp CC (callL CC) 45 [.int .i64 d, .str a, .str b] bx = some (.ret (.str (dotT d a b)), bx) := by
  obtain ⟨c, hc⟩ := call_dotted d a b h ha hb
  exact callOp_of rfl rfl hc rfl
set_option maxHeartbeats 4000000
theorem ok_print_literal : fnOK CC Tryd.f36 (Tryd.f36.body.getD .skip) = true := by kernel_rfl
theorem fat_print_literal : CC.P.funcs[36]? = some Tryd.f36 := by kernel_rfl
theorem ok_print_primary : fnOK CC Tryd.f41 (Tryd.f41.body.getD .skip) = true := by kernel_rfl
theorem fat_print_primary : CC.P.funcs[41]? = some Tryd.f41 := by kernel_rfl
/-- the level of a literal -/
def lvV (v : Vl) : Int := if v.1 = 2 ∧ v.2.1 < 0 then 7 else 8
theorem call_literal (v : Vl) (hn : inI v.2.1) (hc : ckV v = 0) (h0 : v.1 ≠ 0) : ∃ bx, callL CC 36 [vlV v] [] = some (.ret (.tup [.str (prV v), .int .i64 (lvV v)]), bx) := by
  have o1 := op_value_Print v hn
  have o2 := op_num_Digits v.2.1 hn
  have e2 : v.1 = 2 → prV v = Lib.itoa v.2.1 := fun h => by
    unfold prV
    rw [if_neg (by omega), if_neg (by omega), if_neg (by omega), if_pos h]
  unfold lvV
  obtain ⟨k, n, s⟩ := v
  unfold vlV at o1 ⊢
  simp only at o1 o2 e2 ⊢
  generalize prV (k, n, s) = pv at *
  generalize Lib.itoa n = d at *
  obtain ⟨tu, htu⟩ := VLs
  obtain ⟨tr, htr⟩ := TRs
  obtain ⟨tk, hky⟩ := KYs
  clear hc h0
  rw [callL_enter (fn := Tryd.f36) (c := Tryd.f36.body.getD .skip) rfl rfl fat_print_literal rfl ok_print_literal (Nat.le_of_ble_eq_true rfl)]
  by_cases k2 : k = 2
  · have e := e2 k2
    subst k2
    by_cases hneg : n < 0
    · rw [if_pos ⟨rfl, hneg⟩, e]
      obtain ⟨ev, eo, so, co, ⟨hev, hco⟩, R⟩ := RULES CC; rw [← hev]
      rw [← hco] at o1 o2
      simp only [fpart, part', Tryd.f36, Option.getD]
      simp (maxSteps := 5000000) only [SA, SB, SD, R, guardAt, binP, intP, indexAddrP, elemsOf, readCells, lenP, lenAt, resultsP, resultP, oneOr, reduceCtorEq, reduceIte, Nat.reduceEqDiff, Nat.reduceAdd, Nat.zero_add, Nat.reduceMul, Nat.reduceLT, Nat.reduceLeDiff, Int.reduceLT, Int.reduceNeg, Int.reduceLE, appendP, appendAt, letGo, setLoc, locVal, Int.reduceToNat, boxCells, und, TG, SE, SC, htu, htr, hky, unP, loadR, loadP, lay, List.take_succ_cons, List.take_zero, List.drop_succ_cons, List.drop_zero, List.drop_nil, List.filter_nil, List.cons_append, List.getElem?_cons_zero, List.getElem?_cons_succ, List.nil_append, List.append_nil, Int.reduceBEq, Int.reduceBNe, Int.reduceGT, Int.reduceGE, Int.reduceEq, Bool.not_true, Bool.not_false, o1, o2, hneg]
      exact ⟨_, rfl⟩
    · rw [if_neg (by omega)]
      obtain ⟨ev, eo, so, co, ⟨hev, hco⟩, R⟩ := RULES CC; rw [← hev]
      rw [← hco] at o1 o2
      simp only [fpart, part', Tryd.f36, Option.getD]
      simp (maxSteps := 5000000) only [SA, SB, SD, R, guardAt, binP, intP, indexAddrP, elemsOf, readCells, lenP, lenAt, resultsP, resultP, oneOr, reduceCtorEq, reduceIte, Nat.reduceEqDiff, Nat.reduceAdd, Nat.zero_add, Nat.reduceMul, Nat.reduceLT, Nat.reduceLeDiff, Int.reduceLT, Int.reduceNeg, Int.reduceLE, appendP, appendAt, letGo, setLoc, locVal, Int.reduceToNat, boxCells, und, TG, SE, SC, htu, htr, hky, unP, loadR, loadP, lay, List.take_succ_cons, List.take_zero, List.drop_succ_cons, List.drop_zero, List.drop_nil, List.filter_nil, List.cons_append, List.getElem?_cons_zero, List.getElem?_cons_succ, List.nil_append, List.append_nil, Int.reduceBEq, Int.reduceBNe, Int.reduceGT, Int.reduceGE, Int.reduceEq, Bool.not_true, Bool.not_false, o1, o2, hneg]
      exact ⟨_, rfl⟩
  · have p2 : (k == 2) = false := by simpa using k2
    rw [if_neg (by omega)]
    obtain ⟨ev, eo, so, co, ⟨hev, hco⟩, R⟩ := RULES CC; rw [← hev]
    rw [← hco] at o1 o2
    simp only [fpart, part', Tryd.f36, Option.getD]
    simp (maxSteps := 5000000) only [SA, SB, SD, R, guardAt, binP, intP, indexAddrP, elemsOf, readCells, lenP, lenAt, resultsP, resultP, oneOr, reduceCtorEq, reduceIte, Nat.reduceEqDiff, Nat.reduceAdd, Nat.zero_add, Nat.reduceMul, Nat.reduceLT, Nat.reduceLeDiff, Int.reduceLT, Int.reduceNeg, Int.reduceLE, appendP, appendAt, letGo, setLoc, locVal, Int.reduceToNat, boxCells, und, TG, SE, SC, htu, htr, hky, unP, loadR, loadP, lay, List.take_succ_cons, List.take_zero, List.drop_succ_cons, List.drop_zero, List.drop_nil, List.filter_nil, List.cons_append, List.getElem?_cons_zero, List.getElem?_cons_succ, List.nil_append, List.append_nil, Int.reduceBEq, Int.reduceBNe, Int.reduceGT, Int.reduceGE, Int.reduceEq, Bool.not_true, Bool.not_false, o1, o2, p2]
    exact ⟨_, rfl⟩
theorem op_literal (v : Vl) (hn : inI v.2.1) (hc : ckV v = 0) (h0 : v.1 ≠ 0) (bx) : callOp CC (callL CC) 36 [vlV v] bx = some (.ret (.tup [.str (prV v), .int .i64 (lvV v)]), bx) := by
  obtain ⟨c, h⟩ := call_literal v hn hc h0
  exact callOp_of rfl rfl h rfl
def homeN : Nat → List UInt8
  | 0 => [104, 111, 109, 101]
  | 1 => [104, 111, 109, 101, 32, 103, 117, 101, 115, 116]
  | 2 => [104, 111, 109, 101, 32, 99, 104, 105, 108, 100]
  | 3 => [104, 111, 109, 101, 32, 97, 100, 117, 108, 116]
  | 4 => [104, 111, 109, 101, 32, 111, 119, 110, 101, 114]
  | _ => []
/-- the text of an expression without kids, that is no literal -/
def prmT (k n m : Int) (nm : List UInt8) (key : Ky) : List UInt8 := if k = 2 then dotT key.1 key.2.1 key.2.2 else if k = 3 then cat [109, 111, 100, 101, 32, 105, 115, 32] nm else
  if k = 4 then cat (cat (cat [116, 105, 109, 101, 32] (clkT n.toNat)) [32, 116, 111, 32]) (clkT m.toNat) else if k = 5 then dayN n.toNat else homeN n.toNat
theorem bldH : buildP CC 94 [(0, .str [104, 111, 109, 101]), (1, .str [104, 111, 109, 101, 32, 103, 117, 101, 115, 116]), (2, .str [104, 111, 109, 101, 32, 99, 104, 105, 108, 100]), (3, .str [104, 111, 109, 101, 32, 97, 100, 117, 108, 116]), (4, .str [104, 111, 109, 101, 32, 111, 119, 110, 101, 114])] = some (.agg [.str [104, 111, 109, 101], .str [104, 111, 109, 101, 32, 103, 117, 101, 115, 116], .str [104, 111, 109, 101, 32, 99, 104, 105, 108, 100], .str [104, 111, 109, 101, 32, 97, 100, 117, 108, 116], .str [104, 111, 109, 101, 32, 111, 119, 110, 101, 114]])  := by kernel_rfl
theorem ixH0 : indexV CC 94 (.agg [.str [104, 111, 109, 101], .str [104, 111, 109, 101, 32, 103, 117, 101, 115, 116], .str [104, 111, 109, 101, 32, 99, 104, 105, 108, 100], .str [104, 111, 109, 101, 32, 97, 100, 117, 108, 116], .str [104, 111, 109, 101, 32, 111, 119, 110, 101, 114]]) (.int .i64 0) = some (.str [104, 111, 109, 101]) := by kernel_rfl
theorem ixH1 : indexV CC 94 (.agg [.str [104, 111, 109, 101], .str [104, 111, 109, 101, 32, 103, 117, 101, 115, 116], .str [104, 111, 109, 101, 32, 99, 104, 105, 108, 100], .str [104, 111, 109, 101, 32, 97, 100, 117, 108, 116], .str [104, 111, 109, 101, 32, 111, 119, 110, 101, 114]]) (.int .i64 1) = some (.str [104, 111, 109, 101, 32, 103, 117, 101, 115, 116]) := by kernel_rfl
theorem ixH2 : indexV CC 94 (.agg [.str [104, 111, 109, 101], .str [104, 111, 109, 101, 32, 103, 117, 101, 115, 116], .str [104, 111, 109, 101, 32, 99, 104, 105, 108, 100], .str [104, 111, 109, 101, 32, 97, 100, 117, 108, 116], .str [104, 111, 109, 101, 32, 111, 119, 110, 101, 114]]) (.int .i64 2) = some (.str [104, 111, 109, 101, 32, 99, 104, 105, 108, 100]) := by kernel_rfl
theorem ixH3 : indexV CC 94 (.agg [.str [104, 111, 109, 101], .str [104, 111, 109, 101, 32, 103, 117, 101, 115, 116], .str [104, 111, 109, 101, 32, 99, 104, 105, 108, 100], .str [104, 111, 109, 101, 32, 97, 100, 117, 108, 116], .str [104, 111, 109, 101, 32, 111, 119, 110, 101, 114]]) (.int .i64 3) = some (.str [104, 111, 109, 101, 32, 97, 100, 117, 108, 116]) := by kernel_rfl
theorem ixH4 : indexV CC 94 (.agg [.str [104, 111, 109, 101], .str [104, 111, 109, 101, 32, 103, 117, 101, 115, 116], .str [104, 111, 109, 101, 32, 99, 104, 105, 108, 100], .str [104, 111, 109, 101, 32, 97, 100, 117, 108, 116], .str [104, 111, 109, 101, 32, 111, 119, 110, 101, 114]]) (.int .i64 4) = some (.str [104, 111, 109, 101, 32, 111, 119, 110, 101, 114]) := by kernel_rfl
theorem call_primary (k n m : Int) (nm : List UInt8) (v : Vl) (key : Ky) (kids : List Tr) (hk : k = 2 ∨ k = 3 ∨ k = 4 ∨ k = 5 ∨ k = 15) (hr : rgB k n m key.1 = true) (hd : inI key.1) (l1 : nm.length ≤ 100) (l2 : key.2.1.length ≤ 100) (l3 : key.2.2.length ≤ 100) :
    ∃ bx, callL CC 41 [trV (.mk k n m nm v key kids)] [] = some (.ret (.str (prmT k n m nm key)), bx) := by
  unfold prmT
  unfold trV
  unfold rgB at hr
  generalize trVs kids = xs
  obtain ⟨d, c, a⟩ := key
  simp only at hr hd l2 l3 ⊢
  obtain ⟨tu, htu⟩ := VLs
  obtain ⟨tr, htr⟩ := TRs
  obtain ⟨tk, hky⟩ := KYs
  rw [callL_enter (fn := Tryd.f41) (c := Tryd.f41.body.getD .skip) rfl rfl fat_print_primary rfl ok_print_primary (Nat.le_of_ble_eq_true rfl)]
  rcases hk with rfl | rfl | rfl | rfl | rfl
  · rw [if_pos rfl]
    have o1 := op_dotted d c a hd (by omega) (by omega)
    obtain ⟨ev, eo, so, co, ⟨hev, hco⟩, R⟩ := RULES CC; rw [← hev]
    rw [← hco] at o1
    simp only [fpart, part', Tryd.f41, Option.getD]
    simp (maxSteps := 5000000) only [SA, SB, SD, R, guardAt, binP, intP, indexAddrP, elemsOf, readCells, lenP, lenAt, resultsP, resultP, oneOr, reduceCtorEq, reduceIte, Nat.reduceEqDiff, Nat.reduceAdd, Nat.zero_add, Nat.reduceMul, Nat.reduceLT, Nat.reduceLeDiff, Int.reduceLT, Int.reduceNeg, Int.reduceLE, appendP, appendAt, letGo, setLoc, locVal, Int.reduceToNat, boxCells, und, TG, SE, SC, htu, htr, hky, unP, loadR, loadP, lay, List.take_succ_cons, List.take_zero, List.drop_succ_cons, List.drop_zero, List.drop_nil, List.filter_nil, List.cons_append, List.getElem?_cons_zero, List.getElem?_cons_succ, List.nil_append, List.append_nil, Int.reduceBEq, Int.reduceBNe, Int.reduceGT, Int.reduceGE, Int.reduceEq, Bool.not_true, Bool.not_false, o1]
    exact ⟨_, rfl⟩
  · rw [if_neg (by omega), if_pos rfl]
    have c1 := catA (a := [109, 111, 100, 101, 32, 105, 115, 32]) (b := nm) (by simp only [List.length_cons, List.length_nil]; omega)
    obtain ⟨ev, eo, so, co, ⟨hev, hco⟩, R⟩ := RULES CC; rw [← hev]
    skip
    simp only [fpart, part', Tryd.f41, Option.getD]
    simp (maxSteps := 5000000) only [SA, SB, SD, R, guardAt, binP, intP, indexAddrP, elemsOf, readCells, lenP, lenAt, resultsP, resultP, oneOr, reduceCtorEq, reduceIte, Nat.reduceEqDiff, Nat.reduceAdd, Nat.zero_add, Nat.reduceMul, Nat.reduceLT, Nat.reduceLeDiff, Int.reduceLT, Int.reduceNeg, Int.reduceLE, appendP, appendAt, letGo, setLoc, locVal, Int.reduceToNat, boxCells, und, TG, SE, SC, htu, htr, hky, unP, loadR, loadP, lay, List.take_succ_cons, List.take_zero, List.drop_succ_cons, List.drop_zero, List.drop_nil, List.filter_nil, List.cons_append, List.getElem?_cons_zero, List.getElem?_cons_succ, List.nil_append, List.append_nil, Int.reduceBEq, Int.reduceBNe, Int.reduceGT, Int.reduceGE, Int.reduceEq, Bool.not_true, Bool.not_false, c1]
    exact ⟨_, rfl⟩
  · rw [if_pos rfl] at hr
    have hr := of_decide_eq_true hr
    rw [if_neg (by omega), if_neg (by omega), if_pos rfl]
    have o1 := op_clock n (by omega)
    have o2 := op_clock m (by omega)
    have e1 : (clkT n.toNat).length = 5 := rfl
    have e2 : (clkT m.toNat).length = 5 := rfl
    generalize clkT n.toNat = s1 at *
    generalize clkT m.toNat = s2 at *
    have c1 := catA (a := [116, 105, 109, 101, 32]) (b := s1) (by simp only [List.length_cons, List.length_nil]; omega)
    have c2 := catA (a := cat [116, 105, 109, 101, 32] s1) (b := [32, 116, 111, 32]) (by simp only [cat_len, List.length_cons, List.length_nil]; omega)
    have c3 := catA (a := cat (cat [116, 105, 109, 101, 32] s1) [32, 116, 111, 32]) (b := s2) (by simp only [cat_len, List.length_cons, List.length_nil]; omega)
    obtain ⟨ev, eo, so, co, ⟨hev, hco⟩, R⟩ := RULES CC; rw [← hev]
    rw [← hco] at o1 o2
    simp only [fpart, part', Tryd.f41, Option.getD]
    simp (maxSteps := 5000000) only [SA, SB, SD, R, guardAt, binP, intP, indexAddrP, elemsOf, readCells, lenP, lenAt, resultsP, resultP, oneOr, reduceCtorEq, reduceIte, Nat.reduceEqDiff, Nat.reduceAdd, Nat.zero_add, Nat.reduceMul, Nat.reduceLT, Nat.reduceLeDiff, Int.reduceLT, Int.reduceNeg, Int.reduceLE, appendP, appendAt, letGo, setLoc, locVal, Int.reduceToNat, boxCells, und, TG, SE, SC, htu, htr, hky, unP, loadR, loadP, lay, List.take_succ_cons, List.take_zero, List.drop_succ_cons, List.drop_zero, List.drop_nil, List.filter_nil, List.cons_append, List.getElem?_cons_zero, List.getElem?_cons_succ, List.nil_append, List.append_nil, Int.reduceBEq, Int.reduceBNe, Int.reduceGT, Int.reduceGE, Int.reduceEq, Bool.not_true, Bool.not_false, o1, o2, c1, c2, c3]
    exact ⟨_, rfl⟩
  · rw [if_neg (by omega), if_pos rfl] at hr
    have hr := of_decide_eq_true hr
    rw [if_neg (by omega), if_neg (by omega), if_neg (by omega), if_pos rfl]
    have o1 := op_days n (by omega)
    obtain ⟨ev, eo, so, co, ⟨hev, hco⟩, R⟩ := RULES CC; rw [← hev]
    rw [← hco] at o1
    simp only [fpart, part', Tryd.f41, Option.getD]
    simp (maxSteps := 5000000) only [SA, SB, SD, R, guardAt, binP, intP, indexAddrP, elemsOf, readCells, lenP, lenAt, resultsP, resultP, oneOr, reduceCtorEq, reduceIte, Nat.reduceEqDiff, Nat.reduceAdd, Nat.zero_add, Nat.reduceMul, Nat.reduceLT, Nat.reduceLeDiff, Int.reduceLT, Int.reduceNeg, Int.reduceLE, appendP, appendAt, letGo, setLoc, locVal, Int.reduceToNat, boxCells, und, TG, SE, SC, htu, htr, hky, unP, loadR, loadP, lay, List.take_succ_cons, List.take_zero, List.drop_succ_cons, List.drop_zero, List.drop_nil, List.filter_nil, List.cons_append, List.getElem?_cons_zero, List.getElem?_cons_succ, List.nil_append, List.append_nil, Int.reduceBEq, Int.reduceBNe, Int.reduceGT, Int.reduceGE, Int.reduceEq, Bool.not_true, Bool.not_false, o1]
    exact ⟨_, rfl⟩
  · rw [if_neg (by omega), if_neg (by omega), if_pos rfl] at hr
    have hr := of_decide_eq_true hr
    rw [if_neg (by omega), if_neg (by omega), if_neg (by omega), if_neg (by omega)]
    have : n = 0 ∨ n = 1 ∨ n = 2 ∨ n = 3 ∨ n = 4 := by omega
    rcases this with rfl | rfl | rfl | rfl | rfl
    all_goals
      obtain ⟨ev, eo, so, co, ⟨hev, hco⟩, R⟩ := RULES CC; rw [← hev]
      skip
      simp only [fpart, part', Tryd.f41, Option.getD]
      simp (maxSteps := 5000000) only [SA, SB, SD, R, guardAt, binP, intP, indexAddrP, elemsOf, readCells, lenP, lenAt, resultsP, resultP, oneOr, reduceCtorEq, reduceIte, Nat.reduceEqDiff, Nat.reduceAdd, Nat.zero_add, Nat.reduceMul, Nat.reduceLT, Nat.reduceLeDiff, Int.reduceLT, Int.reduceNeg, Int.reduceLE, appendP, appendAt, letGo, setLoc, locVal, Int.reduceToNat, boxCells, und, TG, SE, SC, htu, htr, hky, unP, loadR, loadP, lay, List.take_succ_cons, List.take_zero, List.drop_succ_cons, List.drop_zero, List.drop_nil, List.filter_nil, List.cons_append, List.getElem?_cons_zero, List.getElem?_cons_succ, List.nil_append, List.append_nil, Int.reduceBEq, Int.reduceBNe, Int.reduceGT, Int.reduceGE, Int.reduceEq, Bool.not_true, Bool.not_false, bldH, ixH0, ixH1, ixH2, ixH3, ixH4]
      exact ⟨_, rfl⟩
theorem op_primary (k n m : Int) (nm : List UInt8) (v : Vl) (key : Ky) (kids : List Tr) (hk : k = 2 ∨ k = 3 ∨ k = 4 ∨ k = 5 ∨ k = 15) (hr : rgB k n m key.1 = true) (hd : inI key.1) (l1 : nm.length ≤ 100) (l2 : key.2.1.length ≤ 100) (l3 : key.2.2.length ≤ 100) (bx) :
    callOp CC (callL CC) 41 [trV (.mk k n m nm v key kids)] bx = some (.ret (.str (prmT k n m nm key)), bx) := by
  obtain ⟨c, h⟩ := call_primary k n m nm v key kids hk hr hd l1 l2 l3
  exact callOp_of rfl (by simp only [pureL_cons, trV_pure, pureL_nil, Bool.and_self]) h rfl
/-- a node's text, its level, its kids -/
inductive At where
  | mk (s : List UInt8) (lv : Int) (kids : List At)
def At.s : At → List UInt8
  | .mk s _ _ => s
def At.lv : At → Int
  | .mk _ l _ => l
def At.ks : At → List At
  | .mk _ _ k => k
def dAt : At := .mk [] 8 []
def atG (l : List At) (i : Nat) : At := l[i]?.getD dAt
/-- a kid's text, in parentheses if its level is below the least one -/
def kdS (a : At) (least : Int) : List UInt8 := if a.lv < least then cat (cat [40] a.s) [41] else a.s
def prS (a : At) (l1 : Int) (op : List UInt8) (c : At) (l2 : Int) : List UInt8 := cat (cat (cat (cat (kdS a l1) [32]) op) [32]) (kdS c l2)
def rowS (op : List UInt8) (least : Int) : List At → Nat → List UInt8 → List UInt8
  | [], _, acc => acc
  | a :: r, i, acc => rowS op least r (i + 1) (cat (if 0 < i then cat acc (cat (cat [32] op) [32]) else acc) (kdS a least))
def kdOf : Tr → Int
  | .mk k _ _ _ _ _ _ => k
def kidsOf : Tr → List Tr
  | .mk _ _ _ _ _ _ kids => kids
/-- a negated expression: its text, its level -/
def ngS (k : Int) (a : At) : List UInt8 := if k = 9 then prS (atG a.ks 0) 5 [33, 61] (atG a.ks 1) 5 else if k = 10 then prS (atG a.ks 1) 5 [60, 61] (atG a.ks 0) 5 else cat [110, 111, 116, 32] (kdS a 3)
def ngL (k : Int) : Int := if k = 9 then 4 else if k = 10 then 4 else 3
/-- a difference that is written with a minus sign alone -/
def mnB : List Tr → Bool
  | a :: c :: _ => smB a 1 0 0 [] (2, 0, []) (0, [], []) && (kdOf c != 1)
  | _ => false
def kd0 : List Tr → Int
  | a :: _ => kdOf a
  | _ => 0
def bdT (k n m : Int) (nm : List UInt8) (v : Vl) (key : Ky) (kids : List Tr) (l : List At) : List UInt8 :=
  if k = 1 then prV v else if k = 14 then cat (cat (cat (cat (cat [105, 102, 32] (kdS (atG l 0) 0)) [32, 116, 104, 101, 110, 32]) (kdS (atG l 1) 0)) [32, 101, 108, 115, 101, 32]) (kdS (atG l 2) 0) else
  if k = 8 then rowS [111, 114] 2 l 0 [] else if k = 7 then rowS [97, 110, 100] 3 l 0 [] else if k = 6 then ngS (kd0 kids) (atG l 0) else
  if k = 9 then prS (atG l 0) 5 [61, 61] (atG l 1) 5 else if k = 10 then prS (atG l 0) 5 [60] (atG l 1) 5 else if k = 11 then prS (atG l 0) 5 [43] (atG l 1) 6 else
  if k = 12 then (if mnB kids then cat [45] (kdS (atG l 1) 7) else prS (atG l 0) 5 [45] (atG l 1) 6) else if k = 13 then prS (atG l 0) 6 [42] (atG l 1) 7 else prmT k n m nm key
def blT (k : Int) (v : Vl) (kids : List Tr) : Int :=
  if k = 1 then lvV v else if k = 14 then 0 else if k = 8 then 1 else if k = 7 then 2 else if k = 6 then ngL (kd0 kids) else if k = 9 then 4 else if k = 10 then 4 else if k = 11 then 5 else
  if k = 12 then (if mnB kids then 7 else 5) else if k = 13 then 6 else 8
mutual
def an : Tr → At
  | .mk k n m nm v key kids => .mk (bdT k n m nm v key kids (ans kids)) (blT k v kids) (ans kids)
def ans : List Tr → List At
  | [] => []
  | t :: r => an t :: ans r
end
/-- the text of an expression, its level -/
def TX (t : Tr) : List UInt8 := (an t).s
def LV (t : Tr) : Int := (an t).lv
theorem an_eq (k n m : Int) (nm : List UInt8) (v : Vl) (key : Ky) (kids : List Tr) : an (.mk k n m nm v key kids) = .mk (bdT k n m nm v key kids (ans kids)) (blT k v kids) (ans kids) := by
  conv => lhs; unfold an
theorem an_ks (t : Tr) : (an t).ks = ans (kidsOf t) := by
  obtain ⟨k, n, m, nm, v, key, kids⟩ := t
  rw [an_eq]; rfl
mutual
/-- all nodes are valid -/
def vT : Tr → Prop
  | .mk k n m nm v key kids => ndT (.mk k n m nm v key kids) = 0 ∧ vTs kids
def vTs : List Tr → Prop
  | [] => True
  | t :: r => vT t ∧ vTs r
end
theorem vTs_iff : ∀ l : List Tr, vTs l ↔ ∀ t ∈ l, vT t
  | [] => by unfold vTs; simp
  | t :: r => by unfold vTs; rw [vTs_iff r]; simp
mutual
theorem wk_v (t : Tr) (lv c : Int) (h : (wkT t lv c).2 = 0) : vT t := by
  match t with
  | .mk k n m nm v key kids =>
    unfold wkT at h
    unfold vT
    split at h
    · simp at h
    · split at h
      · simp at h
      · split at h
        · rename_i hn; exact absurd h hn
        · rename_i hn
          exact ⟨by omega, wks_v kids _ _ h⟩
theorem wks_v (l : List Tr) (lv c : Int) (h : (wkTs l lv c).2 = 0) : vTs l := by
  match l with
  | [] => unfold vTs; trivial
  | t :: r =>
    unfold wkTs at h
    unfold vTs
    split at h
    · rename_i hn; exact absurd h hn
    · rename_i hn
      exact ⟨wk_v t lv c (by omega), wks_v r _ _ h⟩
end
theorem ck_v {t : Tr} (h : ckT t = 0) : vT t := wk_v t 1 0 h
mutual
/-- how many nodes there are -/
def ndC : Tr → Nat
  | .mk _ _ _ _ _ _ kids => 1 + ndCs kids
def ndCs : List Tr → Nat
  | [] => 0
  | t :: r => ndC t + ndCs r
end
mutual
theorem nd_md (t : Tr) (left levels : Int) (h : 0 ≤ mdT t left levels) : (ndC t : Int) + mdT t left levels ≤ left := by
  match t with
  | .mk k n m nm v key kids =>
    unfold mdT at h ⊢
    unfold ndC
    split at h
    · omega
    · rename_i hc
      rw [if_neg hc]
      have := nds_md kids (left - 1) _ h
      omega
theorem nds_md (l : List Tr) (left levels : Int) (h : 0 ≤ mdTs l left levels) : (ndCs l : Int) + mdTs l left levels ≤ left := by
  match l with
  | [] => unfold mdTs ndCs; omega
  | t :: r =>
    unfold mdTs at h ⊢
    unfold ndCs
    split at h
    · omega
    · rename_i hc
      rw [if_neg hc]
      have h1 := nd_md t left levels (by omega)
      have h2 := nds_md r _ levels h
      omega
end
theorem nd_220 {t : Tr} (h : 0 ≤ mdT t 220 30) : ndC t ≤ 220 := by have := nd_md t 220 30 h; omega
set_option maxHeartbeats 4000000
theorem ok_print_kid : fnOK CC Tryd.f27 (Tryd.f27.body.getD .skip) = true := by kernel_rfl
theorem fat_print_kid : CC.P.funcs[27]? = some Tryd.f27 := by kernel_rfl
theorem ok_print_pair : fnOK CC Tryd.f39 (Tryd.f39.body.getD .skip) = true := by kernel_rfl
theorem fat_print_pair : CC.P.funcs[39]? = some Tryd.f39 := by kernel_rfl
theorem ok_print_row : fnOK CC Tryd.f37 (Tryd.f37.body.getD .skip) = true := by kernel_rfl
theorem fat_print_row : CC.P.funcs[37]? = some Tryd.f37 := by kernel_rfl
theorem ok_print_minus : fnOK CC Tryd.f40 (Tryd.f40.body.getD .skip) = true := by kernel_rfl
theorem fat_print_minus : CC.P.funcs[40]? = some Tryd.f40 := by kernel_rfl
theorem ok_print_negated : fnOK CC Tryd.f38 (Tryd.f38.body.getD .skip) = true := by kernel_rfl
theorem fat_print_negated : CC.P.funcs[38]? = some Tryd.f38 := by kernel_rfl
theorem ok_print_text : fnOK CC Tryd.f22 (Tryd.f22.body.getD .skip) = true := by kernel_rfl
theorem fat_print_text : CC.P.funcs[22]? = some Tryd.f22 := by kernel_rfl
/-- what 'text' returns of an expression -/
def TXc (t : Tr) : Prop := ∀ bx, callOp CC (callL CC) 22 [trV t] bx = some (.ret (.tup [.str (TX t), .int .i64 (LV t)]), bx)
theorem kdS_len (a : At) (least : Int) : (kdS a least).length ≤ a.s.length + 2 := by
  unfold kdS
  split <;> (try simp only [cat_len, List.length_singleton]) <;> omega
theorem call_kid (t : Tr) (h : TXc t) (hl : (TX t).length ≤ 200000) (least : Int) : ∃ bx, callL CC 27 [trV t, .int .i64 least] [] = some (.ret (.str (kdS (an t) least)), bx) := by
  unfold TXc at h
  have e1 : TX t = (an t).s := rfl
  have e2 : LV t = (an t).lv := rfl
  rw [e1] at hl
  rw [e1, e2] at h
  unfold kdS
  generalize (an t).s = s at *
  generalize (an t).lv = lv at *
  have c1 := catA (a := [40]) (b := s) (by simp only [List.length_singleton]; omega)
  have c2 := catA (a := cat [40] s) (b := [41]) (by simp only [cat_len, List.length_singleton]; omega)
  obtain ⟨k, n, m, nm, v, key, kids⟩ := t
  unfold trV at h ⊢
  generalize trVs kids = xs at *
  obtain ⟨tu, htu⟩ := VLs
  obtain ⟨tr, htr⟩ := TRs
  obtain ⟨tk, hky⟩ := KYs
  rw [callL_enter (fn := Tryd.f27) (c := Tryd.f27.body.getD .skip) rfl rfl fat_print_kid rfl ok_print_kid (Nat.le_of_ble_eq_true rfl)]
  by_cases c : lv < least
  · rw [if_pos c]
    obtain ⟨ev, eo, so, co, ⟨hev, hco⟩, R⟩ := RULES CC; rw [← hev]
    rw [← hco] at h
    simp only [fpart, part', Tryd.f27, Option.getD]
    simp (maxSteps := 5000000) only [SA, SB, SD, R, guardAt, binP, intP, indexAddrP, elemsOf, readCells, lenP, lenAt, resultsP, resultP, oneOr, reduceCtorEq, reduceIte, Nat.reduceEqDiff, Nat.reduceAdd, Nat.zero_add, Nat.reduceMul, Nat.reduceLT, Nat.reduceLeDiff, Int.reduceLT, Int.reduceNeg, Int.reduceLE, appendP, appendAt, letGo, setLoc, locVal, Int.reduceToNat, boxCells, und, TG, SE, SC, htu, htr, hky, unP, extP, loadR, loadP, lay, List.take_succ_cons, List.take_zero, List.drop_succ_cons, List.drop_zero, List.drop_nil, List.filter_nil, List.cons_append, List.getElem?_cons_zero, List.getElem?_cons_succ, List.nil_append, Int.reduceBEq, Int.reduceBNe, Int.reduceGT, Int.reduceGE, Int.reduceEq, Bool.not_true, Bool.not_false, h, c1, c2, c]
    exact ⟨_, rfl⟩
  · rw [if_neg c]
    obtain ⟨ev, eo, so, co, ⟨hev, hco⟩, R⟩ := RULES CC; rw [← hev]
    rw [← hco] at h
    simp only [fpart, part', Tryd.f27, Option.getD]
    simp (maxSteps := 5000000) only [SA, SB, SD, R, guardAt, binP, intP, indexAddrP, elemsOf, readCells, lenP, lenAt, resultsP, resultP, oneOr, reduceCtorEq, reduceIte, Nat.reduceEqDiff, Nat.reduceAdd, Nat.zero_add, Nat.reduceMul, Nat.reduceLT, Nat.reduceLeDiff, Int.reduceLT, Int.reduceNeg, Int.reduceLE, appendP, appendAt, letGo, setLoc, locVal, Int.reduceToNat, boxCells, und, TG, SE, SC, htu, htr, hky, unP, extP, loadR, loadP, lay, List.take_succ_cons, List.take_zero, List.drop_succ_cons, List.drop_zero, List.drop_nil, List.filter_nil, List.cons_append, List.getElem?_cons_zero, List.getElem?_cons_succ, List.nil_append, Int.reduceBEq, Int.reduceBNe, Int.reduceGT, Int.reduceGE, Int.reduceEq, Bool.not_true, Bool.not_false, h, c1, c2, c]
    exact ⟨_, rfl⟩
theorem op_kid (t : Tr) (h : TXc t) (hl : (TX t).length ≤ 200000) (least : Int) (bx) : callOp CC (callL CC) 27 [trV t, .int .i64 least] bx = some (.ret (.str (kdS (an t) least)), bx) := by
  obtain ⟨c, hc⟩ := call_kid t h hl least
  exact callOp_of rfl (by simp only [pureL_cons, trV_pure, pureL_nil, pure_int, Bool.and_self]) hc rfl
theorem call_pair (t u : Tr) (h : TXc t) (h' : TXc u) (hl : (TX t).length ≤ 200000) (hl' : (TX u).length ≤ 200000) (l1 l2 : Int) (op : List UInt8) (ho : op.length ≤ 10) :
    ∃ bx, callL CC 39 [trV t, .int .i64 l1, .str op, trV u, .int .i64 l2] [] = some (.ret (.str (prS (an t) l1 op (an u) l2)), bx) := by
  have o1 := op_kid t h hl l1
  have o2 := op_kid u h' hl' l2
  have k1 := kdS_len (an t) l1
  have k2 := kdS_len (an u) l2
  have e1 : TX t = (an t).s := rfl
  have e2 : TX u = (an u).s := rfl
  rw [e1] at hl
  rw [e2] at hl'
  unfold prS
  generalize kdS (an t) l1 = s1 at *
  generalize kdS (an u) l2 = s2 at *
  have c1 := catA (a := s1) (b := [32]) (by simp only [List.length_singleton]; omega)
  have c2 := catA (a := cat s1 [32]) (b := op) (by simp only [cat_len, List.length_singleton]; omega)
  have c3 := catA (a := cat (cat s1 [32]) op) (b := [32]) (by simp only [cat_len, List.length_singleton]; omega)
  have c4 := catA (a := cat (cat (cat s1 [32]) op) [32]) (b := s2) (by simp only [cat_len, List.length_singleton]; omega)
  have q1 := trVs_pure (kidsOf t)
  have q2 := trVs_pure (kidsOf u)
  clear e1 e2 h h' hl hl' k1 k2
  obtain ⟨k, n, m, nm, v, key, kids⟩ := t
  obtain ⟨k', n', m', nm', v', key', kids'⟩ := u
  unfold trV at o1 o2 ⊢
  unfold kidsOf at q1 q2
  simp only at q1 q2
  generalize trVs kids = xs at *
  generalize trVs kids' = ys at *
  obtain ⟨tu, htu⟩ := VLs
  obtain ⟨tr, htr⟩ := TRs
  obtain ⟨tk, hky⟩ := KYs
  rw [callL_enter (fn := Tryd.f39) (c := Tryd.f39.body.getD .skip) rfl rfl fat_print_pair rfl ok_print_pair (Nat.le_of_ble_eq_true rfl)]
  obtain ⟨ev, eo, so, co, ⟨hev, hco⟩, R⟩ := RULES CC; rw [← hev]
  rw [← hco] at o1 o2
  simp only [fpart, part', Tryd.f39, Option.getD]
  simp (maxSteps := 5000000) only [SA, SB, SD, R, guardAt, binP, intP, indexAddrP, elemsOf, readCells, lenP, lenAt, resultsP, resultP, oneOr, reduceCtorEq, reduceIte, Nat.reduceEqDiff, Nat.reduceAdd, Nat.zero_add, Nat.reduceMul, Nat.reduceLT, Nat.reduceLeDiff, Int.reduceLT, Int.reduceNeg, Int.reduceLE, appendP, appendAt, letGo, setLoc, locVal, Int.reduceToNat, boxCells, und, TG, SE, SC, htu, htr, hky, unP, extP, loadR, loadP, lay, List.take_succ_cons, List.take_zero, List.drop_succ_cons, List.drop_zero, List.drop_nil, List.filter_nil, List.cons_append, List.getElem?_cons_zero, List.getElem?_cons_succ, List.nil_append, Int.reduceBEq, Int.reduceBNe, Int.reduceGT, Int.reduceGE, Int.reduceEq, Bool.not_true, Bool.not_false, o1, o2, c1, c2, c3, c4, q1, q2]
  exact ⟨_, rfl⟩
theorem op_pair (t u : Tr) (h : TXc t) (h' : TXc u) (hl : (TX t).length ≤ 200000) (hl' : (TX u).length ≤ 200000) (l1 l2 : Int) (op : List UInt8) (ho : op.length ≤ 10) (bx) :
    callOp CC (callL CC) 39 [trV t, .int .i64 l1, .str op, trV u, .int .i64 l2] bx = some (.ret (.str (prS (an t) l1 op (an u) l2)), bx) := by
  obtain ⟨c, hc⟩ := call_pair t u h h' hl hl' l1 l2 op ho
  exact callOp_of rfl (by simp only [pureL_cons, trV_pure, pureL_nil, pure_int, pure_str, Bool.and_self]) hc rfl
set_option maxHeartbeats 4000000
theorem ss1 {α : Type} (a : List α) (x y : α) : (a ++ [x]).set a.length y = a ++ [y] := by simp
/-- what a loop leaves: a text -/
def PRo (bx : List PBox) (v : List UInt8) (res : Option (Ex × St)) : Prop := ∃ e' ex, res = some (.exit 0, ⟨e', bx ++ ex⟩) ∧ getT e' 7 = .str v
theorem PRo.app {bx : List PBox} {x : PBox} {v : List UInt8} {res : Option (Ex × St)} (h : PRo (bx ++ [x]) v res) : PRo bx v res := by
  obtain ⟨e', ex, h⟩ := h
  refine ⟨e', [x] ++ ex, ?_⟩
  rw [← List.append_assoc]
  exact h
theorem loop_row (L : Code) (hL : L = fpart Tryd.f37 [1,1,0,1,0]) (l : List Tr) (hl : l.length ≤ 1000) (op : List UInt8) (ho : op.length ≤ 10) (least : Int) (hk : ∀ t ∈ l, TXc t ∧ (TX t).length ≤ 200000) : ∀ (k i : Nat) (acc : List UInt8) (e : List PV) (bx : List PBox), i + k = l.length → acc.length ≤ i * 200100 →
    getT e 10 = .sl (trVs l) → getT e 11 = .int .i64 l.length → getT e 12 = .int .i64 i → getT e 7 = .str acc → getT e 1 = .str op → getT e 2 = .int .i64 least → PRo bx (rowS op least (ans (l.drop i)) i acc) (evL CC L ⟨e, bx⟩) := by
  intro k
  induction k with
  | zero =>
    intro i acc e bx hi0 hac e10 e11 e12 e7 e1 e2
    rw [evL_at (fpart Tryd.f37 [1,1,0,1,0,0]) hL]
    have hi : ¬ ((i : Int) < (l.length : Int)) := by omega
    rw [List.drop_eq_nil_of_le (by omega)]
    unfold ans rowS
    obtain ⟨tu, htu⟩ := VLs
    obtain ⟨tr, htr⟩ := TRs
    obtain ⟨tk, hky⟩ := KYs
    generalize trVs l = xs at *
    obtain ⟨ev, eo, so, co, ⟨hev, hco⟩, R⟩ := RULES CC; rw [← hev]
    simp only [fpart, part', Tryd.f37, Option.getD]
    simp (maxSteps := 5000000) only [SA, SB, SD, R, guardAt, binP, intP, indexAddrP, elemsOf, readCells, lenP, lenAt, resultsP, resultP, oneOr, reduceCtorEq, reduceIte, Nat.reduceEqDiff, Nat.reduceAdd, Nat.zero_add, Nat.reduceMul, Nat.reduceLT, Nat.reduceLeDiff, Int.reduceLT, Int.reduceNeg, Int.reduceLE, appendP, appendAt, letGo, setLoc, locVal, Int.reduceToNat, boxCells, und, TG, SE, SC, TRf, ss1, htu, htr, hky, unP, extP, loadR, loadP, storeR, storeK, storeCellsP, laid, lay, setBox, List.getElem?_concat_length, List.length_cons, List.length_nil, Nat.le_refl, List.take_nil, List.take_succ_cons, List.take_zero, List.drop_succ_cons, List.drop_zero, List.drop_nil, List.filter_nil, List.cons_append, List.getElem?_cons_zero, List.getElem?_cons_succ, List.nil_append, Int.reduceBEq, Int.reduceBNe, Int.reduceGT, Int.reduceGE, Int.reduceEq, Bool.not_true, Bool.not_false, e10, e11, e12, e7, hi]
    exact ⟨_, [], by rw [List.append_nil], by simp (maxSteps := 5000000) only [SA, SB, SD, R, guardAt, binP, intP, indexAddrP, elemsOf, readCells, lenP, lenAt, resultsP, resultP, oneOr, reduceCtorEq, reduceIte, Nat.reduceEqDiff, Nat.reduceAdd, Nat.zero_add, Nat.reduceMul, Nat.reduceLT, Nat.reduceLeDiff, Int.reduceLT, Int.reduceNeg, Int.reduceLE, appendP, appendAt, letGo, setLoc, locVal, Int.reduceToNat, boxCells, und, e7]⟩
  | succ k ih =>
    intro i acc e bx hi0 hac e10 e11 e12 e7 e1 e2
    rw [evL_at (fpart Tryd.f37 [1,1,0,1,0,0]) hL]
    have hi : ((i : Int) < (l.length : Int)) := by omega
    have hi0' : ¬ ((i : Int) < 0) := by omega
    have hdr : l.drop i = (l[i]'(by omega)) :: l.drop (i + 1) := List.drop_eq_getElem_cons (by omega)
    have hx := trVs_get (l := l) (i := i) (t := l[i]'(by omega)) (List.getElem?_eq_getElem (by omega))
    have hlen := trVs_length l
    have hw1 := wrap_i64 (n := (i : Int) + 1) ⟨by omega, by omega⟩
    obtain ⟨hc, hcl⟩ := hk (l[i]'(by omega)) (List.getElem_mem _)
    have key := fun acc e bx h => ih (i + 1) acc e bx (by omega) h
    have cast1 : ((i + 1 : Nat) : Int) = (i : Int) + 1 := by omega
    rw [cast1] at key
    rw [hdr]
    unfold ans rowS
    generalize l[i]'(by omega) = x at *
    have o1 := op_kid x hc hcl least
    have kl := kdS_len (an x) least
    have e0 : TX x = (an x).s := rfl
    rw [e0] at hcl
    clear hc e0
    generalize kdS (an x) least = ks at *
    have c1 := catA (a := [32]) (b := op) (by simp only [List.length_singleton]; omega)
    have c2 := catA (a := cat [32] op) (b := [32]) (by simp only [cat_len, List.length_singleton]; omega)
    have c3 := catA (a := acc) (b := cat (cat [32] op) [32]) (by simp only [cat_len, List.length_singleton]; omega)
    generalize ans (l.drop (i + 1)) = rest at *
    obtain ⟨tu, htu⟩ := VLs
    obtain ⟨tr, htr⟩ := TRs
    obtain ⟨tk, hky⟩ := KYs
    obtain ⟨xk, xn, xm, xnm, xv, xkey, xkids⟩ := x
    unfold trV at hx o1
    generalize trVs l = xs at *
    generalize trVs xkids = ys at *
    clear hk ih hdr
    by_cases z : 0 < i
    · have z1 : ((i : Int) > 0) := by omega
      rw [if_pos z]
      have c4 := catA (a := cat acc (cat (cat [32] op) [32])) (b := ks) (by simp only [cat_len, List.length_singleton]; omega)
      have key := fun e bx => key (cat (cat acc (cat (cat [32] op) [32])) ks) e bx (by simp only [cat_len, List.length_singleton]; omega)
      generalize rowS op least rest (i + 1) (cat (cat acc (cat (cat [32] op) [32])) ks) = res at *
      apply PRo.app
      obtain ⟨ev, eo, so, co, ⟨hev, hco⟩, R⟩ := RULES CC; rw [← hev]
      rw [← hev] at key
      rw [← hco] at o1
      simp only [fpart, part', Tryd.f37, Option.getD]
      simp (maxSteps := 5000000) only [SA, SB, SD, R, guardAt, binP, intP, indexAddrP, elemsOf, readCells, lenP, lenAt, resultsP, resultP, oneOr, reduceCtorEq, reduceIte, Nat.reduceEqDiff, Nat.reduceAdd, Nat.zero_add, Nat.reduceMul, Nat.reduceLT, Nat.reduceLeDiff, Int.reduceLT, Int.reduceNeg, Int.reduceLE, appendP, appendAt, letGo, setLoc, locVal, Int.reduceToNat, boxCells, und, TG, SE, SC, TRf, ss1, htu, htr, hky, unP, extP, loadR, loadP, storeR, storeK, storeCellsP, laid, lay, setBox, List.getElem?_concat_length, List.length_cons, List.length_nil, Nat.le_refl, List.take_nil, List.take_succ_cons, List.take_zero, List.drop_succ_cons, List.drop_zero, List.drop_nil, List.filter_nil, List.cons_append, List.getElem?_cons_zero, List.getElem?_cons_succ, List.nil_append, Int.reduceBEq, Int.reduceBNe, Int.reduceGT, Int.reduceGE, Int.reduceEq, Bool.not_true, Bool.not_false, e10, e11, e12, e7, e1, e2, hi, hi0', hx, hlen, hw1, o1, c1, c2, c3, c4, z1]
      refine key _ _ ?_ ?_ ?_ ?_ ?_ ?_
      all_goals simp (maxSteps := 5000000) only [SA, SB, SD, R, guardAt, binP, intP, indexAddrP, elemsOf, readCells, lenP, lenAt, resultsP, resultP, oneOr, reduceCtorEq, reduceIte, Nat.reduceEqDiff, Nat.reduceAdd, Nat.zero_add, Nat.reduceMul, Nat.reduceLT, Nat.reduceLeDiff, Int.reduceLT, Int.reduceNeg, Int.reduceLE, appendP, appendAt, letGo, setLoc, locVal, Int.reduceToNat, boxCells, und, e10, e11, e12, e7, e1, e2]
    · have z1 : ¬ ((i : Int) > 0) := by omega
      rw [if_neg z]
      have c4 := catA (a := acc) (b := ks) (by omega)
      have key := fun e bx => key (cat acc ks) e bx (by simp only [cat_len]; omega)
      generalize rowS op least rest (i + 1) (cat acc ks) = res at *
      apply PRo.app
      obtain ⟨ev, eo, so, co, ⟨hev, hco⟩, R⟩ := RULES CC; rw [← hev]
      rw [← hev] at key
      rw [← hco] at o1
      simp only [fpart, part', Tryd.f37, Option.getD]
      simp (maxSteps := 5000000) only [SA, SB, SD, R, guardAt, binP, intP, indexAddrP, elemsOf, readCells, lenP, lenAt, resultsP, resultP, oneOr, reduceCtorEq, reduceIte, Nat.reduceEqDiff, Nat.reduceAdd, Nat.zero_add, Nat.reduceMul, Nat.reduceLT, Nat.reduceLeDiff, Int.reduceLT, Int.reduceNeg, Int.reduceLE, appendP, appendAt, letGo, setLoc, locVal, Int.reduceToNat, boxCells, und, TG, SE, SC, TRf, ss1, htu, htr, hky, unP, extP, loadR, loadP, storeR, storeK, storeCellsP, laid, lay, setBox, List.getElem?_concat_length, List.length_cons, List.length_nil, Nat.le_refl, List.take_nil, List.take_succ_cons, List.take_zero, List.drop_succ_cons, List.drop_zero, List.drop_nil, List.filter_nil, List.cons_append, List.getElem?_cons_zero, List.getElem?_cons_succ, List.nil_append, Int.reduceBEq, Int.reduceBNe, Int.reduceGT, Int.reduceGE, Int.reduceEq, Bool.not_true, Bool.not_false, e10, e11, e12, e7, e1, e2, hi, hi0', hx, hlen, hw1, o1, c4, z1]
      refine key _ _ ?_ ?_ ?_ ?_ ?_ ?_
      all_goals simp (maxSteps := 5000000) only [SA, SB, SD, R, guardAt, binP, intP, indexAddrP, elemsOf, readCells, lenP, lenAt, resultsP, resultP, oneOr, reduceCtorEq, reduceIte, Nat.reduceEqDiff, Nat.reduceAdd, Nat.zero_add, Nat.reduceMul, Nat.reduceLT, Nat.reduceLeDiff, Int.reduceLT, Int.reduceNeg, Int.reduceLE, appendP, appendAt, letGo, setLoc, locVal, Int.reduceToNat, boxCells, und, e10, e11, e12, e7, e1, e2]
theorem call_row (l : List Tr) (hl : l.length ≤ 1000) (op : List UInt8) (ho : op.length ≤ 10) (least : Int) (hk : ∀ t ∈ l, TXc t ∧ (TX t).length ≤ 200000) : ∃ bx, callL CC 37 [.sl (trVs l), .str op, .int .i64 least] [] = some (.ret (.str (rowS op least (ans l) 0 [])), bx) := by
  have hloop := fun e bx => loop_row _ rfl l hl op ho least hk l.length 0 [] e bx (by omega) (by simp)
  have hlen := trVs_length l
  rw [List.drop_zero] at hloop
  generalize rowS op least (ans l) 0 [] = v at *
  obtain ⟨tu, htu⟩ := VLs
  obtain ⟨tr, htr⟩ := TRs
  obtain ⟨tk, hky⟩ := KYs
  clear hk
  rw [callL_enter (fn := Tryd.f37) (c := Tryd.f37.body.getD .skip) rfl rfl fat_print_row rfl ok_print_row (Nat.le_of_ble_eq_true rfl)]
  generalize trVs l = xs at *
  obtain ⟨ev, eo, so, co, ⟨hev, hco⟩, R⟩ := RULES CC; rw [← hev]
  rw [← hev] at hloop
  simp only [fpart, part', Tryd.f37, Option.getD] at hloop ⊢
  simp (maxSteps := 5000000) only [SA, SB, SD, R, guardAt, binP, intP, indexAddrP, elemsOf, readCells, lenP, lenAt, resultsP, resultP, oneOr, reduceCtorEq, reduceIte, Nat.reduceEqDiff, Nat.reduceAdd, Nat.zero_add, Nat.reduceMul, Nat.reduceLT, Nat.reduceLeDiff, Int.reduceLT, Int.reduceNeg, Int.reduceLE, appendP, appendAt, letGo, setLoc, locVal, Int.reduceToNat, boxCells, und, TG, SE, SC, TRf, ss1, htu, htr, hky, unP, extP, loadR, loadP, storeR, storeK, storeCellsP, laid, lay, setBox, List.getElem?_concat_length, List.length_cons, List.length_nil, Nat.le_refl, List.take_nil, List.take_succ_cons, List.take_zero, List.drop_succ_cons, List.drop_zero, List.drop_nil, List.filter_nil, List.cons_append, List.getElem?_cons_zero, List.getElem?_cons_succ, List.nil_append, Int.reduceBEq, Int.reduceBNe, Int.reduceGT, Int.reduceGE, Int.reduceEq, Bool.not_true, Bool.not_false, hlen]
  generalize hE : ev (Code.loop _) _ = z
  have hP : PRo [] v z := by
    rw [← hE]
    refine hloop _ _ ?_ ?_ ?_ ?_ ?_ ?_
    all_goals first | (simp (maxSteps := 5000000) only [SA, SB, SD, R, guardAt, binP, intP, indexAddrP, elemsOf, readCells, lenP, lenAt, resultsP, resultP, oneOr, reduceCtorEq, reduceIte, Nat.reduceEqDiff, Nat.reduceAdd, Nat.zero_add, Nat.reduceMul, Nat.reduceLT, Nat.reduceLeDiff, Int.reduceLT, Int.reduceNeg, Int.reduceLE, appendP, appendAt, letGo, setLoc, locVal, Int.reduceToNat, boxCells, und]; done) | (simp (maxSteps := 5000000) only [SA, SB, SD, R, guardAt, binP, intP, indexAddrP, elemsOf, readCells, lenP, lenAt, resultsP, resultP, oneOr, reduceCtorEq, reduceIte, Nat.reduceEqDiff, Nat.reduceAdd, Nat.zero_add, Nat.reduceMul, Nat.reduceLT, Nat.reduceLeDiff, Int.reduceLT, Int.reduceNeg, Int.reduceLE, appendP, appendAt, letGo, setLoc, locVal, Int.reduceToNat, boxCells, und]; rfl)
  obtain ⟨e', ex, he, q⟩ := hP
  subst he
  simp (maxSteps := 5000000) only [SA, SB, SD, R, guardAt, binP, intP, indexAddrP, elemsOf, readCells, lenP, lenAt, resultsP, resultP, oneOr, reduceCtorEq, reduceIte, Nat.reduceEqDiff, Nat.reduceAdd, Nat.zero_add, Nat.reduceMul, Nat.reduceLT, Nat.reduceLeDiff, Int.reduceLT, Int.reduceNeg, Int.reduceLE, appendP, appendAt, letGo, setLoc, locVal, Int.reduceToNat, boxCells, und, TG, SE, SC, TRf, ss1, htu, htr, hky, unP, extP, loadR, loadP, storeR, storeK, storeCellsP, laid, lay, setBox, List.getElem?_concat_length, List.length_cons, List.length_nil, Nat.le_refl, List.take_nil, List.take_succ_cons, List.take_zero, List.drop_succ_cons, List.drop_zero, List.drop_nil, List.filter_nil, List.cons_append, List.getElem?_cons_zero, List.getElem?_cons_succ, List.nil_append, Int.reduceBEq, Int.reduceBNe, Int.reduceGT, Int.reduceGE, Int.reduceEq, Bool.not_true, Bool.not_false, hlen, q]
  exact ⟨_, rfl⟩
theorem op_row (l : List Tr) (hl : l.length ≤ 1000) (op : List UInt8) (ho : op.length ≤ 10) (least : Int) (hk : ∀ t ∈ l, TXc t ∧ (TX t).length ≤ 200000) (bx) : callOp CC (callL CC) 37 [.sl (trVs l), .str op, .int .i64 least] bx = some (.ret (.str (rowS op least (ans l) 0 [])), bx) := by
  obtain ⟨c, hc⟩ := call_row l hl op ho least hk
  exact callOp_of rfl (by simp only [pureL_cons, PV.pure, trVs_pure, pureL_nil, Bool.and_self]) hc rfl
theorem bldV2 : buildP CC 24 [(0, .int .i64 2)] = some (.agg [.int .i64 2, .int .i64 0, .str []]) := by kernel_rfl
theorem bldE1 : buildP CC 29 [(0, .int .i64 1), (4, .agg [.int .i64 2, .int .i64 0, .str []])] = some (.agg [.int .i64 1, .int .i64 0, .int .i64 0, .str [], .int .i64 2, .int .i64 0, .str [], .int .i64 0, .str [], .str [], .nils]) := by kernel_rfl
theorem call_minus (k n m : Int) (nm : List UInt8) (v : Vl) (key : Ky) (a c : Tr) : ∃ bx, callL CC 40 [trV (.mk k n m nm v key [a, c])] [] = some (.ret (.bool (mnB [a, c])), bx) := by
  have o1 := op_expr_Same a 1 0 0 [] (2, 0, []) (0, [], [])
  have hm : mnB [a, c] = (smB a 1 0 0 [] (2, 0, []) (0, [], []) && (kdOf c != 1)) := rfl
  rw [hm]
  clear hm
  generalize smB a 1 0 0 [] (2, 0, []) (0, [], []) = q at *
  unfold leafV at o1
  obtain ⟨ak, an', am, anm, av, akey, akids⟩ := a
  obtain ⟨ck, cn, cm, cnm, cv, ckey, ckids⟩ := c
  simp only [kdOf, trV, trVs] at o1 ⊢
  generalize trVs akids = xs at *
  generalize trVs ckids = ys at *
  obtain ⟨tu, htu⟩ := VLs
  obtain ⟨tr, htr⟩ := TRs
  obtain ⟨tk, hky⟩ := KYs
  have hnb : ∀ b : Bool, (true && b) = b := fun b => rfl
  rw [callL_enter (fn := Tryd.f40) (c := Tryd.f40.body.getD .skip) rfl rfl fat_print_minus rfl ok_print_minus (Nat.le_of_ble_eq_true rfl)]
  cases q with
  | true =>
    rw [Bool.true_and]
    obtain ⟨ev, eo, so, co, ⟨hev, hco⟩, R⟩ := RULES CC; rw [← hev]
    rw [← hco] at o1
    simp only [fpart, part', Tryd.f40, Option.getD]
    simp (maxSteps := 5000000) only [SA, SB, SD, R, guardAt, binP, intP, indexAddrP, elemsOf, readCells, lenP, lenAt, resultsP, resultP, oneOr, reduceCtorEq, reduceIte, Nat.reduceEqDiff, Nat.reduceAdd, Nat.zero_add, Nat.reduceMul, Nat.reduceLT, Nat.reduceLeDiff, Int.reduceLT, Int.reduceNeg, Int.reduceLE, appendP, appendAt, letGo, setLoc, locVal, Int.reduceToNat, boxCells, und, TG, SE, SC, TRf, ss1, htu, htr, hky, unP, extP, loadR, loadP, storeR, storeK, storeCellsP, laid, lay, setBox, List.getElem?_concat_length, List.length_cons, List.length_nil, Nat.le_refl, List.take_nil, List.take_succ_cons, List.take_zero, List.drop_succ_cons, List.drop_zero, List.drop_nil, List.filter_nil, List.cons_append, List.getElem?_cons_zero, List.getElem?_cons_succ, List.nil_append, Int.reduceBEq, Int.reduceBNe, Int.reduceGT, Int.reduceGE, Int.reduceEq, Bool.not_true, Bool.not_false, o1, bldV2, bldE1]
    exact ⟨_, rfl⟩
  | false =>
    rw [Bool.false_and]
    obtain ⟨ev, eo, so, co, ⟨hev, hco⟩, R⟩ := RULES CC; rw [← hev]
    rw [← hco] at o1
    simp only [fpart, part', Tryd.f40, Option.getD]
    simp (maxSteps := 5000000) only [SA, SB, SD, R, guardAt, binP, intP, indexAddrP, elemsOf, readCells, lenP, lenAt, resultsP, resultP, oneOr, reduceCtorEq, reduceIte, Nat.reduceEqDiff, Nat.reduceAdd, Nat.zero_add, Nat.reduceMul, Nat.reduceLT, Nat.reduceLeDiff, Int.reduceLT, Int.reduceNeg, Int.reduceLE, appendP, appendAt, letGo, setLoc, locVal, Int.reduceToNat, boxCells, und, TG, SE, SC, TRf, ss1, htu, htr, hky, unP, extP, loadR, loadP, storeR, storeK, storeCellsP, laid, lay, setBox, List.getElem?_concat_length, List.length_cons, List.length_nil, Nat.le_refl, List.take_nil, List.take_succ_cons, List.take_zero, List.drop_succ_cons, List.drop_zero, List.drop_nil, List.filter_nil, List.cons_append, List.getElem?_cons_zero, List.getElem?_cons_succ, List.nil_append, Int.reduceBEq, Int.reduceBNe, Int.reduceGT, Int.reduceGE, Int.reduceEq, Bool.not_true, Bool.not_false, o1, bldV2, bldE1]
    exact ⟨_, rfl⟩
theorem op_minus (k n m : Int) (nm : List UInt8) (v : Vl) (key : Ky) (a c : Tr) (bx) : callOp CC (callL CC) 40 [trV (.mk k n m nm v key [a, c])] bx = some (.ret (.bool (mnB [a, c])), bx) := by
  obtain ⟨b, hc⟩ := call_minus k n m nm v key a c
  exact callOp_of rfl (by simp only [pureL_cons, trV_pure, pureL_nil, Bool.and_self]) hc rfl
set_option maxHeartbeats 4000000
/-- what 'negated' returns -/
def NGc (t : Tr) : Prop := ∀ bx, callOp CC (callL CC) 38 [trV t] bx = some (.ret (.tup [.str (ngS (kdOf t) (an t)), .int .i64 (ngL (kdOf t))]), bx)
theorem ls_two {l : List Tr} (h : l.length = 2) : ∃ a c, l = [a, c] := by
  match l, h with
  | [a, c], _ => exact ⟨a, c, rfl⟩
theorem ls_one {l : List Tr} (h : l.length = 1) : ∃ a, l = [a] := by
  match l, h with
  | [a], _ => exact ⟨a, rfl⟩
theorem ls_three {l : List Tr} (h : l.length = 3) : ∃ a c d, l = [a, c, d] := by
  match l, h with
  | [a, c, d], _ => exact ⟨a, c, d, rfl⟩
theorem kd_two {k : Int} {l : List Tr} (hk : 9 ≤ k ∧ k ≤ 13) (h : kdB k l.length = true) : ∃ a c, l = [a, c] := by
  unfold kdB at h
  rw [if_neg (by omega), if_neg (by omega), if_pos hk] at h
  exact ls_two (by have := eq_of_beq h; omega)
theorem kd_one {l : List Tr} (h : kdB 6 l.length = true) : ∃ a, l = [a] := by
  unfold kdB at h
  rw [if_pos rfl] at h
  exact ls_one (by have := eq_of_beq h; omega)
theorem kd_three {l : List Tr} (h : kdB 14 l.length = true) : ∃ a c d, l = [a, c, d] := by
  unfold kdB at h
  rw [if_neg (by omega), if_neg (by omega), if_neg (by omega), if_pos rfl] at h
  exact ls_three (by have := eq_of_beq h; omega)
theorem call_negated (k n m : Int) (nm : List UInt8) (v : Vl) (key : Ky) (kids : List Tr) (hv : kdB k kids.length = true) (ht : TXc (.mk k n m nm v key kids)) (htl : (TX (.mk k n m nm v key kids)).length ≤ 200000) (hk : ∀ t ∈ kids, TXc t ∧ (TX t).length ≤ 200000) :
    ∃ bx, callL CC 38 [trV (.mk k n m nm v key kids)] [] = some (.ret (.tup [.str (ngS k (an (.mk k n m nm v key kids))), .int .i64 (ngL k)]), bx) := by
  obtain ⟨tu, htu⟩ := VLs
  obtain ⟨tr, htr⟩ := TRs
  obtain ⟨tk, hky⟩ := KYs
  by_cases k9 : k = 9
  · subst k9
    obtain ⟨a, c, rfl⟩ := kd_two (k := 9) (by omega) hv
    have o1 := op_pair a c (hk a (by simp)).1 (hk c (by simp)).1 (hk a (by simp)).2 (hk c (by simp)).2 5 5 [33, 61] (by decide)
    have e1 : ngS 9 (an (.mk 9 n m nm v key [a, c])) = prS (an a) 5 [33, 61] (an c) 5 := by
      unfold ngS
      rw [if_pos rfl, an_ks]
      rfl
    have e2 : ngL 9 = 4 := rfl
    rw [e1, e2]
    clear e1 e2 hk ht htl
    generalize prS (an a) 5 [33, 61] (an c) 5 = s at *
    obtain ⟨ak, an', am, anm, av, akey, akids⟩ := a
    obtain ⟨ck, cn, cm, cnm, cv, ckey, ckids⟩ := c
    simp only [trV, trVs] at o1 ⊢
    have q1 := trVs_pure akids
    have q2 := trVs_pure ckids
    generalize trVs akids = xs at *
    generalize trVs ckids = ys at *
    rw [callL_enter (fn := Tryd.f38) (c := Tryd.f38.body.getD .skip) rfl rfl fat_print_negated rfl ok_print_negated (Nat.le_of_ble_eq_true rfl)]
    obtain ⟨ev, eo, so, co, ⟨hev, hco⟩, R⟩ := RULES CC; rw [← hev]
    rw [← hco] at o1
    simp only [fpart, part', Tryd.f38, Option.getD]
    simp (maxSteps := 5000000) only [SA, SB, SD, R, guardAt, binP, intP, indexAddrP, elemsOf, readCells, lenP, lenAt, resultsP, resultP, oneOr, reduceCtorEq, reduceIte, Nat.reduceEqDiff, Nat.reduceAdd, Nat.zero_add, Nat.reduceMul, Nat.reduceLT, Nat.reduceLeDiff, Int.reduceLT, Int.reduceNeg, Int.reduceLE, appendP, appendAt, letGo, setLoc, locVal, Int.reduceToNat, boxCells, und, TG, SE, SC, TRf, ss1, htu, htr, hky, unP, extP, loadR, loadP, storeR, storeK, storeCellsP, laid, lay, setBox, List.getElem?_concat_length, List.length_cons, List.length_nil, Nat.le_refl, List.take_nil, List.take_succ_cons, List.take_zero, List.drop_succ_cons, List.drop_zero, List.drop_nil, List.filter_nil, List.cons_append, List.getElem?_cons_zero, List.getElem?_cons_succ, List.nil_append, Int.reduceBEq, Int.reduceBNe, Int.reduceGT, Int.reduceGE, Int.reduceEq, Bool.not_true, Bool.not_false, o1, q1, q2]
    exact ⟨_, rfl⟩
  by_cases k10 : k = 10
  · subst k10
    obtain ⟨a, c, rfl⟩ := kd_two (k := 10) (by omega) hv
    have o1 := op_pair c a (hk c (by simp)).1 (hk a (by simp)).1 (hk c (by simp)).2 (hk a (by simp)).2 5 5 [60, 61] (by decide)
    have e1 : ngS 10 (an (.mk 10 n m nm v key [a, c])) = prS (an c) 5 [60, 61] (an a) 5 := by
      unfold ngS
      rw [if_neg (by omega), if_pos rfl, an_ks]
      rfl
    have e2 : ngL 10 = 4 := rfl
    rw [e1, e2]
    clear e1 e2 hk ht htl
    generalize prS (an c) 5 [60, 61] (an a) 5 = s at *
    obtain ⟨ak, an', am, anm, av, akey, akids⟩ := a
    obtain ⟨ck, cn, cm, cnm, cv, ckey, ckids⟩ := c
    simp only [trV, trVs] at o1 ⊢
    have q1 := trVs_pure akids
    have q2 := trVs_pure ckids
    generalize trVs akids = xs at *
    generalize trVs ckids = ys at *
    rw [callL_enter (fn := Tryd.f38) (c := Tryd.f38.body.getD .skip) rfl rfl fat_print_negated rfl ok_print_negated (Nat.le_of_ble_eq_true rfl)]
    obtain ⟨ev, eo, so, co, ⟨hev, hco⟩, R⟩ := RULES CC; rw [← hev]
    rw [← hco] at o1
    simp only [fpart, part', Tryd.f38, Option.getD]
    simp (maxSteps := 5000000) only [SA, SB, SD, R, guardAt, binP, intP, indexAddrP, elemsOf, readCells, lenP, lenAt, resultsP, resultP, oneOr, reduceCtorEq, reduceIte, Nat.reduceEqDiff, Nat.reduceAdd, Nat.zero_add, Nat.reduceMul, Nat.reduceLT, Nat.reduceLeDiff, Int.reduceLT, Int.reduceNeg, Int.reduceLE, appendP, appendAt, letGo, setLoc, locVal, Int.reduceToNat, boxCells, und, TG, SE, SC, TRf, ss1, htu, htr, hky, unP, extP, loadR, loadP, storeR, storeK, storeCellsP, laid, lay, setBox, List.getElem?_concat_length, List.length_cons, List.length_nil, Nat.le_refl, List.take_nil, List.take_succ_cons, List.take_zero, List.drop_succ_cons, List.drop_zero, List.drop_nil, List.filter_nil, List.cons_append, List.getElem?_cons_zero, List.getElem?_cons_succ, List.nil_append, Int.reduceBEq, Int.reduceBNe, Int.reduceGT, Int.reduceGE, Int.reduceEq, Bool.not_true, Bool.not_false, o1, q1, q2]
    exact ⟨_, rfl⟩
  have p9 : (k == 9) = false := by simpa using k9
  have p10 : (k == 10) = false := by simpa using k10
  have o1 := op_kid _ ht htl 3
  have kl := kdS_len (an (.mk k n m nm v key kids)) 3
  have e0 : TX (.mk k n m nm v key kids) = (an (.mk k n m nm v key kids)).s := rfl
  rw [e0] at htl
  have e1 : ngS k (an (.mk k n m nm v key kids)) = cat [110, 111, 116, 32] (kdS (an (.mk k n m nm v key kids)) 3) := by unfold ngS; rw [if_neg k9, if_neg k10]
  have e2 : ngL k = 3 := by unfold ngL; rw [if_neg k9, if_neg k10]
  rw [e1, e2]
  clear e0 e1 e2 ht hk
  generalize kdS (an (.mk k n m nm v key kids)) 3 = s at *
  have c1 := catA (a := [110, 111, 116, 32]) (b := s) (by simp only [List.length_cons, List.length_nil]; omega)
  simp only [trV] at o1 ⊢
  generalize trVs kids = xs at *
  rw [callL_enter (fn := Tryd.f38) (c := Tryd.f38.body.getD .skip) rfl rfl fat_print_negated rfl ok_print_negated (Nat.le_of_ble_eq_true rfl)]
  obtain ⟨ev, eo, so, co, ⟨hev, hco⟩, R⟩ := RULES CC; rw [← hev]
  rw [← hco] at o1
  simp only [fpart, part', Tryd.f38, Option.getD]
  simp (maxSteps := 5000000) only [SA, SB, SD, R, guardAt, binP, intP, indexAddrP, elemsOf, readCells, lenP, lenAt, resultsP, resultP, oneOr, reduceCtorEq, reduceIte, Nat.reduceEqDiff, Nat.reduceAdd, Nat.zero_add, Nat.reduceMul, Nat.reduceLT, Nat.reduceLeDiff, Int.reduceLT, Int.reduceNeg, Int.reduceLE, appendP, appendAt, letGo, setLoc, locVal, Int.reduceToNat, boxCells, und, TG, SE, SC, TRf, ss1, htu, htr, hky, unP, extP, loadR, loadP, storeR, storeK, storeCellsP, laid, lay, setBox, List.getElem?_concat_length, List.length_cons, List.length_nil, Nat.le_refl, List.take_nil, List.take_succ_cons, List.take_zero, List.drop_succ_cons, List.drop_zero, List.drop_nil, List.filter_nil, List.cons_append, List.getElem?_cons_zero, List.getElem?_cons_succ, List.nil_append, Int.reduceBEq, Int.reduceBNe, Int.reduceGT, Int.reduceGE, Int.reduceEq, Bool.not_true, Bool.not_false, o1, c1, p9, p10]
  exact ⟨_, rfl⟩
theorem op_negated (k n m : Int) (nm : List UInt8) (v : Vl) (key : Ky) (kids : List Tr) (hv : kdB k kids.length = true) (ht : TXc (.mk k n m nm v key kids)) (htl : (TX (.mk k n m nm v key kids)).length ≤ 200000) (hk : ∀ t ∈ kids, TXc t ∧ (TX t).length ≤ 200000) : NGc (.mk k n m nm v key kids) := fun bx => by
  obtain ⟨c, hc⟩ := call_negated k n m nm v key kids hv ht htl hk
  exact callOp_of rfl (by simp only [pureL_cons, trV_pure, pureL_nil, Bool.and_self]) hc rfl
theorem TX_eq (k n m : Int) (nm : List UInt8) (v : Vl) (key : Ky) (kids : List Tr) : TX (.mk k n m nm v key kids) = bdT k n m nm v key kids (ans kids) := by unfold TX; rw [an_eq]; rfl
theorem LV_eq (k n m : Int) (nm : List UInt8) (v : Vl) (key : Ky) (kids : List Tr) : LV (.mk k n m nm v key kids) = blT k v kids := by unfold LV; rw [an_eq]; rfl
theorem call_text_1 (n m : Int) (nm : List UInt8) (v : Vl) (key : Ky) (kids : List Tr) (hn : inI v.2.1) (hc : ckV v = 0) (h0 : v.1 ≠ 0) : ∃ bx, callL CC 22 [trV (.mk 1 n m nm v key kids)] [] = some (.ret (.tup [.str (TX (.mk 1 n m nm v key kids)), .int .i64 (LV (.mk 1 n m nm v key kids))]), bx) := by
  obtain ⟨tu, htu⟩ := VLs
  obtain ⟨tr, htr⟩ := TRs
  obtain ⟨tk, hky⟩ := KYs
  have e1 : TX (.mk 1 n m nm v key kids) = prV v := by rw [TX_eq]; unfold bdT; simp only [Int.reduceEq, if_true, if_false]
  have e2 : LV (.mk 1 n m nm v key kids) = lvV v := by rw [LV_eq]; unfold blT; simp only [Int.reduceEq, if_true, if_false]
  rw [e1, e2]
  have o1 := op_literal v hn hc h0
  generalize prV v = s at *
  generalize lvV v = lv at *
  unfold vlV at o1
  simp only [trV]
  generalize trVs kids = xs at *
  clear e1 e2 hc h0
  rw [callL_enter (fn := Tryd.f22) (c := Tryd.f22.body.getD .skip) rfl rfl fat_print_text rfl ok_print_text (Nat.le_of_ble_eq_true rfl)]
  obtain ⟨ev, eo, so, co, ⟨hev, hco⟩, R⟩ := RULES CC; rw [← hev]
  rw [← hco] at o1
  simp only [fpart, part', Tryd.f22, Option.getD]
  simp (maxSteps := 5000000) only [SA, SB, SD, R, guardAt, binP, intP, indexAddrP, elemsOf, readCells, lenP, lenAt, resultsP, resultP, oneOr, reduceCtorEq, reduceIte, Nat.reduceEqDiff, Nat.reduceAdd, Nat.zero_add, Nat.reduceMul, Nat.reduceLT, Nat.reduceLeDiff, Int.reduceLT, Int.reduceNeg, Int.reduceLE, appendP, appendAt, letGo, setLoc, locVal, Int.reduceToNat, boxCells, und, TG, SE, SC, TRf, ss1, htu, htr, hky, unP, extP, loadR, loadP, storeR, storeK, storeCellsP, laid, lay, setBox, List.getElem?_concat_length, List.length_cons, List.length_nil, Nat.le_refl, List.take_nil, List.take_succ_cons, List.take_zero, List.drop_succ_cons, List.drop_zero, List.drop_nil, List.filter_nil, List.cons_append, List.getElem?_cons_zero, List.getElem?_cons_succ, List.nil_append, Int.reduceBEq, Int.reduceBNe, Int.reduceGT, Int.reduceGE, Int.reduceEq, Bool.not_true, Bool.not_false, o1]
  exact ⟨_, rfl⟩
theorem call_text_8 (n m : Int) (nm : List UInt8) (v : Vl) (key : Ky) (kids : List Tr) (hl : kids.length ≤ 1000) (hk : ∀ t ∈ kids, TXc t ∧ (TX t).length ≤ 200000) : ∃ bx, callL CC 22 [trV (.mk 8 n m nm v key kids)] [] = some (.ret (.tup [.str (TX (.mk 8 n m nm v key kids)), .int .i64 (LV (.mk 8 n m nm v key kids))]), bx) := by
  obtain ⟨tu, htu⟩ := VLs
  obtain ⟨tr, htr⟩ := TRs
  obtain ⟨tk, hky⟩ := KYs
  have e1 : TX (.mk 8 n m nm v key kids) = rowS [111, 114] 2 (ans kids) 0 [] := by rw [TX_eq]; unfold bdT; simp only [Int.reduceEq, if_true, if_false]
  have e2 : LV (.mk 8 n m nm v key kids) = 1 := by rw [LV_eq]; unfold blT; simp only [Int.reduceEq, if_true, if_false]
  rw [e1, e2]
  have o1 := op_row kids hl [111, 114] (by decide) 2 hk
  generalize rowS [111, 114] 2 (ans kids) 0 [] = s at *
  simp only [trV]
  generalize trVs kids = xs at *
  clear e1 e2 hk
  rw [callL_enter (fn := Tryd.f22) (c := Tryd.f22.body.getD .skip) rfl rfl fat_print_text rfl ok_print_text (Nat.le_of_ble_eq_true rfl)]
  obtain ⟨ev, eo, so, co, ⟨hev, hco⟩, R⟩ := RULES CC; rw [← hev]
  rw [← hco] at o1
  simp only [fpart, part', Tryd.f22, Option.getD]
  simp (maxSteps := 5000000) only [SA, SB, SD, R, guardAt, binP, intP, indexAddrP, elemsOf, readCells, lenP, lenAt, resultsP, resultP, oneOr, reduceCtorEq, reduceIte, Nat.reduceEqDiff, Nat.reduceAdd, Nat.zero_add, Nat.reduceMul, Nat.reduceLT, Nat.reduceLeDiff, Int.reduceLT, Int.reduceNeg, Int.reduceLE, appendP, appendAt, letGo, setLoc, locVal, Int.reduceToNat, boxCells, und, TG, SE, SC, TRf, ss1, htu, htr, hky, unP, extP, loadR, loadP, storeR, storeK, storeCellsP, laid, lay, setBox, List.getElem?_concat_length, List.length_cons, List.length_nil, Nat.le_refl, List.take_nil, List.take_succ_cons, List.take_zero, List.drop_succ_cons, List.drop_zero, List.drop_nil, List.filter_nil, List.cons_append, List.getElem?_cons_zero, List.getElem?_cons_succ, List.nil_append, Int.reduceBEq, Int.reduceBNe, Int.reduceGT, Int.reduceGE, Int.reduceEq, Bool.not_true, Bool.not_false, o1]
  exact ⟨_, rfl⟩
theorem call_text_7 (n m : Int) (nm : List UInt8) (v : Vl) (key : Ky) (kids : List Tr) (hl : kids.length ≤ 1000) (hk : ∀ t ∈ kids, TXc t ∧ (TX t).length ≤ 200000) : ∃ bx, callL CC 22 [trV (.mk 7 n m nm v key kids)] [] = some (.ret (.tup [.str (TX (.mk 7 n m nm v key kids)), .int .i64 (LV (.mk 7 n m nm v key kids))]), bx) := by
  obtain ⟨tu, htu⟩ := VLs
  obtain ⟨tr, htr⟩ := TRs
  obtain ⟨tk, hky⟩ := KYs
  have e1 : TX (.mk 7 n m nm v key kids) = rowS [97, 110, 100] 3 (ans kids) 0 [] := by rw [TX_eq]; unfold bdT; simp only [Int.reduceEq, if_true, if_false]
  have e2 : LV (.mk 7 n m nm v key kids) = 2 := by rw [LV_eq]; unfold blT; simp only [Int.reduceEq, if_true, if_false]
  rw [e1, e2]
  have o1 := op_row kids hl [97, 110, 100] (by decide) 3 hk
  generalize rowS [97, 110, 100] 3 (ans kids) 0 [] = s at *
  simp only [trV]
  generalize trVs kids = xs at *
  clear e1 e2 hk
  rw [callL_enter (fn := Tryd.f22) (c := Tryd.f22.body.getD .skip) rfl rfl fat_print_text rfl ok_print_text (Nat.le_of_ble_eq_true rfl)]
  obtain ⟨ev, eo, so, co, ⟨hev, hco⟩, R⟩ := RULES CC; rw [← hev]
  rw [← hco] at o1
  simp only [fpart, part', Tryd.f22, Option.getD]
  simp (maxSteps := 5000000) only [SA, SB, SD, R, guardAt, binP, intP, indexAddrP, elemsOf, readCells, lenP, lenAt, resultsP, resultP, oneOr, reduceCtorEq, reduceIte, Nat.reduceEqDiff, Nat.reduceAdd, Nat.zero_add, Nat.reduceMul, Nat.reduceLT, Nat.reduceLeDiff, Int.reduceLT, Int.reduceNeg, Int.reduceLE, appendP, appendAt, letGo, setLoc, locVal, Int.reduceToNat, boxCells, und, TG, SE, SC, TRf, ss1, htu, htr, hky, unP, extP, loadR, loadP, storeR, storeK, storeCellsP, laid, lay, setBox, List.getElem?_concat_length, List.length_cons, List.length_nil, Nat.le_refl, List.take_nil, List.take_succ_cons, List.take_zero, List.drop_succ_cons, List.drop_zero, List.drop_nil, List.filter_nil, List.cons_append, List.getElem?_cons_zero, List.getElem?_cons_succ, List.nil_append, Int.reduceBEq, Int.reduceBNe, Int.reduceGT, Int.reduceGE, Int.reduceEq, Bool.not_true, Bool.not_false, o1]
  exact ⟨_, rfl⟩
theorem call_text_9 (n m : Int) (nm : List UInt8) (v : Vl) (key : Ky) (kids : List Tr) (hv : kdB 9 kids.length = true) (hk : ∀ t ∈ kids, TXc t ∧ (TX t).length ≤ 200000) : ∃ bx, callL CC 22 [trV (.mk 9 n m nm v key kids)] [] = some (.ret (.tup [.str (TX (.mk 9 n m nm v key kids)), .int .i64 (LV (.mk 9 n m nm v key kids))]), bx) := by
  obtain ⟨tu, htu⟩ := VLs
  obtain ⟨tr, htr⟩ := TRs
  obtain ⟨tk, hky⟩ := KYs
  obtain ⟨a, c, rfl⟩ := kd_two (k := 9) (by omega) hv
  have e1 : TX (.mk 9 n m nm v key [a, c]) = prS (an a) 5 [61, 61] (an c) 5 := by rw [TX_eq]; unfold bdT; simp only [Int.reduceEq, if_true, if_false]; try rfl
  have e2 : LV (.mk 9 n m nm v key [a, c]) = 4 := by rw [LV_eq]; unfold blT; simp only [Int.reduceEq, if_true, if_false]; try rfl
  rw [e1, e2]
  have o1 := op_pair a c (hk a (by simp)).1 (hk c (by simp)).1 (hk a (by simp)).2 (hk c (by simp)).2 5 5 [61, 61] (by decide)
  clear e1 e2 hk
  generalize prS (an a) 5 [61, 61] (an c) 5 = s at *
  obtain ⟨ak, an', am, anm, av, akey, akids⟩ := a
  obtain ⟨ck, cn, cm, cnm, cv, ckey, ckids⟩ := c
  simp only [trV, trVs] at o1 ⊢
  have q1 := trVs_pure akids
  have q2 := trVs_pure ckids
  generalize trVs akids = xs at *
  generalize trVs ckids = ys at *
  rw [callL_enter (fn := Tryd.f22) (c := Tryd.f22.body.getD .skip) rfl rfl fat_print_text rfl ok_print_text (Nat.le_of_ble_eq_true rfl)]
  obtain ⟨ev, eo, so, co, ⟨hev, hco⟩, R⟩ := RULES CC; rw [← hev]
  rw [← hco] at o1
  simp only [fpart, part', Tryd.f22, Option.getD]
  simp (maxSteps := 5000000) only [SA, SB, SD, R, guardAt, binP, intP, indexAddrP, elemsOf, readCells, lenP, lenAt, resultsP, resultP, oneOr, reduceCtorEq, reduceIte, Nat.reduceEqDiff, Nat.reduceAdd, Nat.zero_add, Nat.reduceMul, Nat.reduceLT, Nat.reduceLeDiff, Int.reduceLT, Int.reduceNeg, Int.reduceLE, appendP, appendAt, letGo, setLoc, locVal, Int.reduceToNat, boxCells, und, TG, SE, SC, TRf, ss1, htu, htr, hky, unP, extP, loadR, loadP, storeR, storeK, storeCellsP, laid, lay, setBox, List.getElem?_concat_length, List.length_cons, List.length_nil, Nat.le_refl, List.take_nil, List.take_succ_cons, List.take_zero, List.drop_succ_cons, List.drop_zero, List.drop_nil, List.filter_nil, List.cons_append, List.getElem?_cons_zero, List.getElem?_cons_succ, List.nil_append, Int.reduceBEq, Int.reduceBNe, Int.reduceGT, Int.reduceGE, Int.reduceEq, Bool.not_true, Bool.not_false, o1, q1, q2]
  exact ⟨_, rfl⟩
theorem call_text_10 (n m : Int) (nm : List UInt8) (v : Vl) (key : Ky) (kids : List Tr) (hv : kdB 10 kids.length = true) (hk : ∀ t ∈ kids, TXc t ∧ (TX t).length ≤ 200000) : ∃ bx, callL CC 22 [trV (.mk 10 n m nm v key kids)] [] = some (.ret (.tup [.str (TX (.mk 10 n m nm v key kids)), .int .i64 (LV (.mk 10 n m nm v key kids))]), bx) := by
  obtain ⟨tu, htu⟩ := VLs
  obtain ⟨tr, htr⟩ := TRs
  obtain ⟨tk, hky⟩ := KYs
  obtain ⟨a, c, rfl⟩ := kd_two (k := 10) (by omega) hv
  have e1 : TX (.mk 10 n m nm v key [a, c]) = prS (an a) 5 [60] (an c) 5 := by rw [TX_eq]; unfold bdT; simp only [Int.reduceEq, if_true, if_false]; try rfl
  have e2 : LV (.mk 10 n m nm v key [a, c]) = 4 := by rw [LV_eq]; unfold blT; simp only [Int.reduceEq, if_true, if_false]; try rfl
  rw [e1, e2]
  have o1 := op_pair a c (hk a (by simp)).1 (hk c (by simp)).1 (hk a (by simp)).2 (hk c (by simp)).2 5 5 [60] (by decide)
  clear e1 e2 hk
  generalize prS (an a) 5 [60] (an c) 5 = s at *
  obtain ⟨ak, an', am, anm, av, akey, akids⟩ := a
  obtain ⟨ck, cn, cm, cnm, cv, ckey, ckids⟩ := c
  simp only [trV, trVs] at o1 ⊢
  have q1 := trVs_pure akids
  have q2 := trVs_pure ckids
  generalize trVs akids = xs at *
  generalize trVs ckids = ys at *
  rw [callL_enter (fn := Tryd.f22) (c := Tryd.f22.body.getD .skip) rfl rfl fat_print_text rfl ok_print_text (Nat.le_of_ble_eq_true rfl)]
  obtain ⟨ev, eo, so, co, ⟨hev, hco⟩, R⟩ := RULES CC; rw [← hev]
  rw [← hco] at o1
  simp only [fpart, part', Tryd.f22, Option.getD]
  simp (maxSteps := 5000000) only [SA, SB, SD, R, guardAt, binP, intP, indexAddrP, elemsOf, readCells, lenP, lenAt, resultsP, resultP, oneOr, reduceCtorEq, reduceIte, Nat.reduceEqDiff, Nat.reduceAdd, Nat.zero_add, Nat.reduceMul, Nat.reduceLT, Nat.reduceLeDiff, Int.reduceLT, Int.reduceNeg, Int.reduceLE, appendP, appendAt, letGo, setLoc, locVal, Int.reduceToNat, boxCells, und, TG, SE, SC, TRf, ss1, htu, htr, hky, unP, extP, loadR, loadP, storeR, storeK, storeCellsP, laid, lay, setBox, List.getElem?_concat_length, List.length_cons, List.length_nil, Nat.le_refl, List.take_nil, List.take_succ_cons, List.take_zero, List.drop_succ_cons, List.drop_zero, List.drop_nil, List.filter_nil, List.cons_append, List.getElem?_cons_zero, List.getElem?_cons_succ, List.nil_append, Int.reduceBEq, Int.reduceBNe, Int.reduceGT, Int.reduceGE, Int.reduceEq, Bool.not_true, Bool.not_false, o1, q1, q2]
  exact ⟨_, rfl⟩
theorem call_text_11 (n m : Int) (nm : List UInt8) (v : Vl) (key : Ky) (kids : List Tr) (hv : kdB 11 kids.length = true) (hk : ∀ t ∈ kids, TXc t ∧ (TX t).length ≤ 200000) : ∃ bx, callL CC 22 [trV (.mk 11 n m nm v key kids)] [] = some (.ret (.tup [.str (TX (.mk 11 n m nm v key kids)), .int .i64 (LV (.mk 11 n m nm v key kids))]), bx) := by
  obtain ⟨tu, htu⟩ := VLs
  obtain ⟨tr, htr⟩ := TRs
  obtain ⟨tk, hky⟩ := KYs
  obtain ⟨a, c, rfl⟩ := kd_two (k := 11) (by omega) hv
  have e1 : TX (.mk 11 n m nm v key [a, c]) = prS (an a) 5 [43] (an c) 6 := by rw [TX_eq]; unfold bdT; simp only [Int.reduceEq, if_true, if_false]; try rfl
  have e2 : LV (.mk 11 n m nm v key [a, c]) = 5 := by rw [LV_eq]; unfold blT; simp only [Int.reduceEq, if_true, if_false]; try rfl
  rw [e1, e2]
  have o1 := op_pair a c (hk a (by simp)).1 (hk c (by simp)).1 (hk a (by simp)).2 (hk c (by simp)).2 5 6 [43] (by decide)
  clear e1 e2 hk
  generalize prS (an a) 5 [43] (an c) 6 = s at *
  obtain ⟨ak, an', am, anm, av, akey, akids⟩ := a
  obtain ⟨ck, cn, cm, cnm, cv, ckey, ckids⟩ := c
  simp only [trV, trVs] at o1 ⊢
  have q1 := trVs_pure akids
  have q2 := trVs_pure ckids
  generalize trVs akids = xs at *
  generalize trVs ckids = ys at *
  rw [callL_enter (fn := Tryd.f22) (c := Tryd.f22.body.getD .skip) rfl rfl fat_print_text rfl ok_print_text (Nat.le_of_ble_eq_true rfl)]
  obtain ⟨ev, eo, so, co, ⟨hev, hco⟩, R⟩ := RULES CC; rw [← hev]
  rw [← hco] at o1
  simp only [fpart, part', Tryd.f22, Option.getD]
  simp (maxSteps := 5000000) only [SA, SB, SD, R, guardAt, binP, intP, indexAddrP, elemsOf, readCells, lenP, lenAt, resultsP, resultP, oneOr, reduceCtorEq, reduceIte, Nat.reduceEqDiff, Nat.reduceAdd, Nat.zero_add, Nat.reduceMul, Nat.reduceLT, Nat.reduceLeDiff, Int.reduceLT, Int.reduceNeg, Int.reduceLE, appendP, appendAt, letGo, setLoc, locVal, Int.reduceToNat, boxCells, und, TG, SE, SC, TRf, ss1, htu, htr, hky, unP, extP, loadR, loadP, storeR, storeK, storeCellsP, laid, lay, setBox, List.getElem?_concat_length, List.length_cons, List.length_nil, Nat.le_refl, List.take_nil, List.take_succ_cons, List.take_zero, List.drop_succ_cons, List.drop_zero, List.drop_nil, List.filter_nil, List.cons_append, List.getElem?_cons_zero, List.getElem?_cons_succ, List.nil_append, Int.reduceBEq, Int.reduceBNe, Int.reduceGT, Int.reduceGE, Int.reduceEq, Bool.not_true, Bool.not_false, o1, q1, q2]
  exact ⟨_, rfl⟩
theorem call_text_13 (n m : Int) (nm : List UInt8) (v : Vl) (key : Ky) (kids : List Tr) (hv : kdB 13 kids.length = true) (hk : ∀ t ∈ kids, TXc t ∧ (TX t).length ≤ 200000) : ∃ bx, callL CC 22 [trV (.mk 13 n m nm v key kids)] [] = some (.ret (.tup [.str (TX (.mk 13 n m nm v key kids)), .int .i64 (LV (.mk 13 n m nm v key kids))]), bx) := by
  obtain ⟨tu, htu⟩ := VLs
  obtain ⟨tr, htr⟩ := TRs
  obtain ⟨tk, hky⟩ := KYs
  obtain ⟨a, c, rfl⟩ := kd_two (k := 13) (by omega) hv
  have e1 : TX (.mk 13 n m nm v key [a, c]) = prS (an a) 6 [42] (an c) 7 := by rw [TX_eq]; unfold bdT; simp only [Int.reduceEq, if_true, if_false]; try rfl
  have e2 : LV (.mk 13 n m nm v key [a, c]) = 6 := by rw [LV_eq]; unfold blT; simp only [Int.reduceEq, if_true, if_false]; try rfl
  rw [e1, e2]
  have o1 := op_pair a c (hk a (by simp)).1 (hk c (by simp)).1 (hk a (by simp)).2 (hk c (by simp)).2 6 7 [42] (by decide)
  clear e1 e2 hk
  generalize prS (an a) 6 [42] (an c) 7 = s at *
  obtain ⟨ak, an', am, anm, av, akey, akids⟩ := a
  obtain ⟨ck, cn, cm, cnm, cv, ckey, ckids⟩ := c
  simp only [trV, trVs] at o1 ⊢
  have q1 := trVs_pure akids
  have q2 := trVs_pure ckids
  generalize trVs akids = xs at *
  generalize trVs ckids = ys at *
  rw [callL_enter (fn := Tryd.f22) (c := Tryd.f22.body.getD .skip) rfl rfl fat_print_text rfl ok_print_text (Nat.le_of_ble_eq_true rfl)]
  obtain ⟨ev, eo, so, co, ⟨hev, hco⟩, R⟩ := RULES CC; rw [← hev]
  rw [← hco] at o1
  simp only [fpart, part', Tryd.f22, Option.getD]
  simp (maxSteps := 5000000) only [SA, SB, SD, R, guardAt, binP, intP, indexAddrP, elemsOf, readCells, lenP, lenAt, resultsP, resultP, oneOr, reduceCtorEq, reduceIte, Nat.reduceEqDiff, Nat.reduceAdd, Nat.zero_add, Nat.reduceMul, Nat.reduceLT, Nat.reduceLeDiff, Int.reduceLT, Int.reduceNeg, Int.reduceLE, appendP, appendAt, letGo, setLoc, locVal, Int.reduceToNat, boxCells, und, TG, SE, SC, TRf, ss1, htu, htr, hky, unP, extP, loadR, loadP, storeR, storeK, storeCellsP, laid, lay, setBox, List.getElem?_concat_length, List.length_cons, List.length_nil, Nat.le_refl, List.take_nil, List.take_succ_cons, List.take_zero, List.drop_succ_cons, List.drop_zero, List.drop_nil, List.filter_nil, List.cons_append, List.getElem?_cons_zero, List.getElem?_cons_succ, List.nil_append, Int.reduceBEq, Int.reduceBNe, Int.reduceGT, Int.reduceGE, Int.reduceEq, Bool.not_true, Bool.not_false, o1, q1, q2]
  exact ⟨_, rfl⟩
set_option maxHeartbeats 4000000
theorem call_text_14 (n m : Int) (nm : List UInt8) (v : Vl) (key : Ky) (kids : List Tr) (hv : kdB 14 kids.length = true) (hk : ∀ t ∈ kids, TXc t ∧ (TX t).length ≤ 200000) : ∃ bx, callL CC 22 [trV (.mk 14 n m nm v key kids)] [] = some (.ret (.tup [.str (TX (.mk 14 n m nm v key kids)), .int .i64 (LV (.mk 14 n m nm v key kids))]), bx) := by
  obtain ⟨tu, htu⟩ := VLs
  obtain ⟨tr, htr⟩ := TRs
  obtain ⟨tk, hky⟩ := KYs
  obtain ⟨a, c, d, rfl⟩ := kd_three hv
  have e1 : TX (.mk 14 n m nm v key [a, c, d]) = cat (cat (cat (cat (cat [105, 102, 32] (kdS (an a) 0)) [32, 116, 104, 101, 110, 32]) (kdS (an c) 0)) [32, 101, 108, 115, 101, 32]) (kdS (an d) 0) := by rw [TX_eq]; unfold bdT; simp only [Int.reduceEq, if_true, if_false]; try rfl
  have e2 : LV (.mk 14 n m nm v key [a, c, d]) = 0 := by rw [LV_eq]; unfold blT; simp only [Int.reduceEq, if_true, if_false]; try rfl
  rw [e1, e2]
  have o1 := op_kid a (hk a (by simp)).1 (hk a (by simp)).2 0
  have o2 := op_kid c (hk c (by simp)).1 (hk c (by simp)).2 0
  have o3 := op_kid d (hk d (by simp)).1 (hk d (by simp)).2 0
  have l1 := kdS_len (an a) 0
  have l2 := kdS_len (an c) 0
  have l3 := kdS_len (an d) 0
  have m1 : (an a).s.length ≤ 200000 := (hk a (by simp)).2
  have m2 : (an c).s.length ≤ 200000 := (hk c (by simp)).2
  have m3 : (an d).s.length ≤ 200000 := (hk d (by simp)).2
  clear e1 e2 hk
  generalize kdS (an a) 0 = s1 at *
  generalize kdS (an c) 0 = s2 at *
  generalize kdS (an d) 0 = s3 at *
  have c1 := catA (a := [105, 102, 32]) (b := s1) (by simp only [List.length_cons, List.length_nil]; omega)
  have c2 := catA (a := cat [105, 102, 32] s1) (b := [32, 116, 104, 101, 110, 32]) (by simp only [cat_len, List.length_cons, List.length_nil]; omega)
  have c3 := catA (a := cat (cat [105, 102, 32] s1) [32, 116, 104, 101, 110, 32]) (b := s2) (by simp only [cat_len, List.length_cons, List.length_nil]; omega)
  have c4 := catA (a := cat (cat (cat [105, 102, 32] s1) [32, 116, 104, 101, 110, 32]) s2) (b := [32, 101, 108, 115, 101, 32]) (by simp only [cat_len, List.length_cons, List.length_nil]; omega)
  have c5 := catA (a := cat (cat (cat (cat [105, 102, 32] s1) [32, 116, 104, 101, 110, 32]) s2) [32, 101, 108, 115, 101, 32]) (b := s3) (by simp only [cat_len, List.length_cons, List.length_nil]; omega)
  clear l1 l2 l3 m1 m2 m3
  obtain ⟨ak, an, am, anm, av, akey, akids⟩ := a
  obtain ⟨ck, cn, cm, cnm, cv, ckey, ckids⟩ := c
  obtain ⟨dk, dn, dm, dnm, dv, dkey, dkids⟩ := d
  simp only [trV, trVs] at o1 o2 o3 ⊢
  have q1 := trVs_pure akids
  have q2 := trVs_pure ckids
  have q3 := trVs_pure dkids
  generalize trVs akids = xs at *
  generalize trVs ckids = ys at *
  generalize trVs dkids = zs at *
  rw [callL_enter (fn := Tryd.f22) (c := Tryd.f22.body.getD .skip) rfl rfl fat_print_text rfl ok_print_text (Nat.le_of_ble_eq_true rfl)]
  obtain ⟨ev, eo, so, co, ⟨hev, hco⟩, R⟩ := RULES CC; rw [← hev]
  rw [← hco] at o1 o2 o3
  simp only [fpart, part', Tryd.f22, Option.getD]
  simp (maxSteps := 5000000) only [SA, SB, SD, R, guardAt, binP, intP, indexAddrP, elemsOf, readCells, lenP, lenAt, resultsP, resultP, oneOr, reduceCtorEq, reduceIte, Nat.reduceEqDiff, Nat.reduceAdd, Nat.zero_add, Nat.reduceMul, Nat.reduceLT, Nat.reduceLeDiff, Int.reduceLT, Int.reduceNeg, Int.reduceLE, appendP, appendAt, letGo, setLoc, locVal, Int.reduceToNat, boxCells, und, TG, SE, SC, TRf, ss1, htu, htr, hky, unP, extP, loadR, loadP, storeR, storeK, storeCellsP, laid, lay, setBox, List.getElem?_concat_length, List.length_cons, List.length_nil, Nat.le_refl, List.take_nil, List.take_succ_cons, List.take_zero, List.drop_succ_cons, List.drop_zero, List.drop_nil, List.filter_nil, List.cons_append, List.getElem?_cons_zero, List.getElem?_cons_succ, List.nil_append, Int.reduceBEq, Int.reduceBNe, Int.reduceGT, Int.reduceGE, Int.reduceEq, Bool.not_true, Bool.not_false, o1, o2, o3, c1, c2, c3, c4, c5, q1, q2, q3]
  exact ⟨_, rfl⟩
theorem call_text_6 (n m : Int) (nm : List UInt8) (v : Vl) (key : Ky) (kids : List Tr) (a : Tr) (hkd : kids = [a]) (hng : NGc a) : ∃ bx, callL CC 22 [trV (.mk 6 n m nm v key kids)] [] = some (.ret (.tup [.str (TX (.mk 6 n m nm v key kids)), .int .i64 (LV (.mk 6 n m nm v key kids))]), bx) := by
  obtain ⟨tu, htu⟩ := VLs
  obtain ⟨tr, htr⟩ := TRs
  obtain ⟨tk, hky⟩ := KYs
  subst hkd
  have e1 : TX (.mk 6 n m nm v key [a]) = ngS (kdOf a) (an a) := by rw [TX_eq]; unfold bdT; simp only [Int.reduceEq, if_true, if_false]; try rfl
  have e2 : LV (.mk 6 n m nm v key [a]) = ngL (kdOf a) := by rw [LV_eq]; unfold blT; simp only [Int.reduceEq, if_true, if_false]; try rfl
  rw [e1, e2]
  have o1 := hng
  unfold NGc at o1
  clear e1 e2 hng
  generalize ngS (kdOf a) (an a) = s at *
  generalize ngL (kdOf a) = lv at *
  obtain ⟨ak, an, am, anm, av, akey, akids⟩ := a
  simp only [trV, trVs] at o1 ⊢
  have q1 := trVs_pure akids
  generalize trVs akids = xs at *
  rw [callL_enter (fn := Tryd.f22) (c := Tryd.f22.body.getD .skip) rfl rfl fat_print_text rfl ok_print_text (Nat.le_of_ble_eq_true rfl)]
  obtain ⟨ev, eo, so, co, ⟨hev, hco⟩, R⟩ := RULES CC; rw [← hev]
  rw [← hco] at o1
  simp only [fpart, part', Tryd.f22, Option.getD]
  simp (maxSteps := 5000000) only [SA, SB, SD, R, guardAt, binP, intP, indexAddrP, elemsOf, readCells, lenP, lenAt, resultsP, resultP, oneOr, reduceCtorEq, reduceIte, Nat.reduceEqDiff, Nat.reduceAdd, Nat.zero_add, Nat.reduceMul, Nat.reduceLT, Nat.reduceLeDiff, Int.reduceLT, Int.reduceNeg, Int.reduceLE, appendP, appendAt, letGo, setLoc, locVal, Int.reduceToNat, boxCells, und, TG, SE, SC, TRf, ss1, htu, htr, hky, unP, extP, loadR, loadP, storeR, storeK, storeCellsP, laid, lay, setBox, List.getElem?_concat_length, List.length_cons, List.length_nil, Nat.le_refl, List.take_nil, List.take_succ_cons, List.take_zero, List.drop_succ_cons, List.drop_zero, List.drop_nil, List.filter_nil, List.cons_append, List.getElem?_cons_zero, List.getElem?_cons_succ, List.nil_append, Int.reduceBEq, Int.reduceBNe, Int.reduceGT, Int.reduceGE, Int.reduceEq, Bool.not_true, Bool.not_false, o1, q1]
  exact ⟨_, rfl⟩
theorem call_text_12 (n m : Int) (nm : List UInt8) (v : Vl) (key : Ky) (kids : List Tr) (hv : kdB 12 kids.length = true) (hk : ∀ t ∈ kids, TXc t ∧ (TX t).length ≤ 200000) : ∃ bx, callL CC 22 [trV (.mk 12 n m nm v key kids)] [] = some (.ret (.tup [.str (TX (.mk 12 n m nm v key kids)), .int .i64 (LV (.mk 12 n m nm v key kids))]), bx) := by
  obtain ⟨tu, htu⟩ := VLs
  obtain ⟨tr, htr⟩ := TRs
  obtain ⟨tk, hky⟩ := KYs
  obtain ⟨a, c, rfl⟩ := kd_two (k := 12) (by omega) hv
  have e1 : TX (.mk 12 n m nm v key [a, c]) = (if mnB [a, c] then cat [45] (kdS (an c) 7) else prS (an a) 5 [45] (an c) 6) := by rw [TX_eq]; unfold bdT; simp only [Int.reduceEq, if_true, if_false]; try rfl
  have e2 : LV (.mk 12 n m nm v key [a, c]) = (if mnB [a, c] then 7 else 5) := by rw [LV_eq]; unfold blT; simp only [Int.reduceEq, if_true, if_false]; try rfl
  rw [e1, e2]
  have o1 := op_pair a c (hk a (by simp)).1 (hk c (by simp)).1 (hk a (by simp)).2 (hk c (by simp)).2 5 6 [45] (by decide)
  have o2 := op_kid c (hk c (by simp)).1 (hk c (by simp)).2 7
  have o3 := op_minus 12 n m nm v key a c
  have l2 := kdS_len (an c) 7
  have m2 : (an c).s.length ≤ 200000 := (hk c (by simp)).2
  clear e1 e2 hk
  generalize prS (an a) 5 [45] (an c) 6 = s at *
  generalize kdS (an c) 7 = s2 at *
  have c1 := catA (a := [45]) (b := s2) (by simp only [List.length_cons, List.length_nil]; omega)
  clear l2 m2
  generalize mnB [a, c] = q at *
  obtain ⟨ak, an', am, anm, av, akey, akids⟩ := a
  obtain ⟨ck, cn, cm, cnm, cv, ckey, ckids⟩ := c
  simp only [trV, trVs] at o1 o2 o3 ⊢
  have q1 := trVs_pure akids
  have q2 := trVs_pure ckids
  generalize trVs akids = xs at *
  generalize trVs ckids = ys at *
  rw [callL_enter (fn := Tryd.f22) (c := Tryd.f22.body.getD .skip) rfl rfl fat_print_text rfl ok_print_text (Nat.le_of_ble_eq_true rfl)]
  cases q with
  | true =>
    rw [if_pos rfl, if_pos rfl]
    obtain ⟨ev, eo, so, co, ⟨hev, hco⟩, R⟩ := RULES CC; rw [← hev]
    rw [← hco] at o1 o2 o3
    simp only [fpart, part', Tryd.f22, Option.getD]
    simp (maxSteps := 5000000) only [SA, SB, SD, R, guardAt, binP, intP, indexAddrP, elemsOf, readCells, lenP, lenAt, resultsP, resultP, oneOr, reduceCtorEq, reduceIte, Nat.reduceEqDiff, Nat.reduceAdd, Nat.zero_add, Nat.reduceMul, Nat.reduceLT, Nat.reduceLeDiff, Int.reduceLT, Int.reduceNeg, Int.reduceLE, appendP, appendAt, letGo, setLoc, locVal, Int.reduceToNat, boxCells, und, TG, SE, SC, TRf, ss1, htu, htr, hky, unP, extP, loadR, loadP, storeR, storeK, storeCellsP, laid, lay, setBox, List.getElem?_concat_length, List.length_cons, List.length_nil, Nat.le_refl, List.take_nil, List.take_succ_cons, List.take_zero, List.drop_succ_cons, List.drop_zero, List.drop_nil, List.filter_nil, List.cons_append, List.getElem?_cons_zero, List.getElem?_cons_succ, List.nil_append, Int.reduceBEq, Int.reduceBNe, Int.reduceGT, Int.reduceGE, Int.reduceEq, Bool.not_true, Bool.not_false, o1, o2, o3, c1, q1, q2]
    exact ⟨_, rfl⟩
  | false =>
    rw [if_neg (by simp), if_neg (by simp)]
    obtain ⟨ev, eo, so, co, ⟨hev, hco⟩, R⟩ := RULES CC; rw [← hev]
    rw [← hco] at o1 o2 o3
    simp only [fpart, part', Tryd.f22, Option.getD]
    simp (maxSteps := 5000000) only [SA, SB, SD, R, guardAt, binP, intP, indexAddrP, elemsOf, readCells, lenP, lenAt, resultsP, resultP, oneOr, reduceCtorEq, reduceIte, Nat.reduceEqDiff, Nat.reduceAdd, Nat.zero_add, Nat.reduceMul, Nat.reduceLT, Nat.reduceLeDiff, Int.reduceLT, Int.reduceNeg, Int.reduceLE, appendP, appendAt, letGo, setLoc, locVal, Int.reduceToNat, boxCells, und, TG, SE, SC, TRf, ss1, htu, htr, hky, unP, extP, loadR, loadP, storeR, storeK, storeCellsP, laid, lay, setBox, List.getElem?_concat_length, List.length_cons, List.length_nil, Nat.le_refl, List.take_nil, List.take_succ_cons, List.take_zero, List.drop_succ_cons, List.drop_zero, List.drop_nil, List.filter_nil, List.cons_append, List.getElem?_cons_zero, List.getElem?_cons_succ, List.nil_append, Int.reduceBEq, Int.reduceBNe, Int.reduceGT, Int.reduceGE, Int.reduceEq, Bool.not_true, Bool.not_false, o1, o2, o3, c1, q1, q2]
    exact ⟨_, rfl⟩
theorem call_text_2 (n m : Int) (nm : List UInt8) (v : Vl) (key : Ky) (kids : List Tr) (hr : rgB 2 n m key.1 = true) (hd : inI key.1) (l1 : nm.length ≤ 100) (l2 : key.2.1.length ≤ 100) (l3 : key.2.2.length ≤ 100) : ∃ bx, callL CC 22 [trV (.mk 2 n m nm v key kids)] [] = some (.ret (.tup [.str (TX (.mk 2 n m nm v key kids)), .int .i64 (LV (.mk 2 n m nm v key kids))]), bx) := by
  obtain ⟨tu, htu⟩ := VLs
  obtain ⟨tr, htr⟩ := TRs
  obtain ⟨tk, hky⟩ := KYs
  have e1 : TX (.mk 2 n m nm v key kids) = prmT 2 n m nm key := by rw [TX_eq]; unfold bdT; simp only [Int.reduceEq, if_true, if_false]
  have e2 : LV (.mk 2 n m nm v key kids) = 8 := by rw [LV_eq]; unfold blT; simp only [Int.reduceEq, if_true, if_false]
  rw [e1, e2]
  have o1 := op_primary 2 n m nm v key kids (by omega) hr hd l1 l2 l3
  clear e1 e2 hr hd l1 l2 l3
  generalize prmT 2 n m nm key = s at *
  simp only [trV] at o1 ⊢
  generalize trVs kids = xs at *
  rw [callL_enter (fn := Tryd.f22) (c := Tryd.f22.body.getD .skip) rfl rfl fat_print_text rfl ok_print_text (Nat.le_of_ble_eq_true rfl)]
  obtain ⟨ev, eo, so, co, ⟨hev, hco⟩, R⟩ := RULES CC; rw [← hev]
  rw [← hco] at o1
  simp only [fpart, part', Tryd.f22, Option.getD]
  simp (maxSteps := 5000000) only [SA, SB, SD, R, guardAt, binP, intP, indexAddrP, elemsOf, readCells, lenP, lenAt, resultsP, resultP, oneOr, reduceCtorEq, reduceIte, Nat.reduceEqDiff, Nat.reduceAdd, Nat.zero_add, Nat.reduceMul, Nat.reduceLT, Nat.reduceLeDiff, Int.reduceLT, Int.reduceNeg, Int.reduceLE, appendP, appendAt, letGo, setLoc, locVal, Int.reduceToNat, boxCells, und, TG, SE, SC, TRf, ss1, htu, htr, hky, unP, extP, loadR, loadP, storeR, storeK, storeCellsP, laid, lay, setBox, List.getElem?_concat_length, List.length_cons, List.length_nil, Nat.le_refl, List.take_nil, List.take_succ_cons, List.take_zero, List.drop_succ_cons, List.drop_zero, List.drop_nil, List.filter_nil, List.cons_append, List.getElem?_cons_zero, List.getElem?_cons_succ, List.nil_append, Int.reduceBEq, Int.reduceBNe, Int.reduceGT, Int.reduceGE, Int.reduceEq, Bool.not_true, Bool.not_false, o1]
  exact ⟨_, rfl⟩
theorem call_text_3 (n m : Int) (nm : List UInt8) (v : Vl) (key : Ky) (kids : List Tr) (hr : rgB 3 n m key.1 = true) (hd : inI key.1) (l1 : nm.length ≤ 100) (l2 : key.2.1.length ≤ 100) (l3 : key.2.2.length ≤ 100) : ∃ bx, callL CC 22 [trV (.mk 3 n m nm v key kids)] [] = some (.ret (.tup [.str (TX (.mk 3 n m nm v key kids)), .int .i64 (LV (.mk 3 n m nm v key kids))]), bx) := by
  obtain ⟨tu, htu⟩ := VLs
  obtain ⟨tr, htr⟩ := TRs
  obtain ⟨tk, hky⟩ := KYs
  have e1 : TX (.mk 3 n m nm v key kids) = prmT 3 n m nm key := by rw [TX_eq]; unfold bdT; simp only [Int.reduceEq, if_true, if_false]
  have e2 : LV (.mk 3 n m nm v key kids) = 8 := by rw [LV_eq]; unfold blT; simp only [Int.reduceEq, if_true, if_false]
  rw [e1, e2]
  have o1 := op_primary 3 n m nm v key kids (by omega) hr hd l1 l2 l3
  clear e1 e2 hr hd l1 l2 l3
  generalize prmT 3 n m nm key = s at *
  simp only [trV] at o1 ⊢
  generalize trVs kids = xs at *
  rw [callL_enter (fn := Tryd.f22) (c := Tryd.f22.body.getD .skip) rfl rfl fat_print_text rfl ok_print_text (Nat.le_of_ble_eq_true rfl)]
  obtain ⟨ev, eo, so, co, ⟨hev, hco⟩, R⟩ := RULES CC; rw [← hev]
  rw [← hco] at o1
  simp only [fpart, part', Tryd.f22, Option.getD]
  simp (maxSteps := 5000000) only [SA, SB, SD, R, guardAt, binP, intP, indexAddrP, elemsOf, readCells, lenP, lenAt, resultsP, resultP, oneOr, reduceCtorEq, reduceIte, Nat.reduceEqDiff, Nat.reduceAdd, Nat.zero_add, Nat.reduceMul, Nat.reduceLT, Nat.reduceLeDiff, Int.reduceLT, Int.reduceNeg, Int.reduceLE, appendP, appendAt, letGo, setLoc, locVal, Int.reduceToNat, boxCells, und, TG, SE, SC, TRf, ss1, htu, htr, hky, unP, extP, loadR, loadP, storeR, storeK, storeCellsP, laid, lay, setBox, List.getElem?_concat_length, List.length_cons, List.length_nil, Nat.le_refl, List.take_nil, List.take_succ_cons, List.take_zero, List.drop_succ_cons, List.drop_zero, List.drop_nil, List.filter_nil, List.cons_append, List.getElem?_cons_zero, List.getElem?_cons_succ, List.nil_append, Int.reduceBEq, Int.reduceBNe, Int.reduceGT, Int.reduceGE, Int.reduceEq, Bool.not_true, Bool.not_false, o1]
  exact ⟨_, rfl⟩
theorem call_text_4 (n m : Int) (nm : List UInt8) (v : Vl) (key : Ky) (kids : List Tr) (hr : rgB 4 n m key.1 = true) (hd : inI key.1) (l1 : nm.length ≤ 100) (l2 : key.2.1.length ≤ 100) (l3 : key.2.2.length ≤ 100) : ∃ bx, callL CC 22 [trV (.mk 4 n m nm v key kids)] [] = some (.ret (.tup [.str (TX (.mk 4 n m nm v key kids)), .int .i64 (LV (.mk 4 n m nm v key kids))]), bx) := by
  obtain ⟨tu, htu⟩ := VLs
  obtain ⟨tr, htr⟩ := TRs
  obtain ⟨tk, hky⟩ := KYs
  have e1 : TX (.mk 4 n m nm v key kids) = prmT 4 n m nm key := by rw [TX_eq]; unfold bdT; simp only [Int.reduceEq, if_true, if_false]
  have e2 : LV (.mk 4 n m nm v key kids) = 8 := by rw [LV_eq]; unfold blT; simp only [Int.reduceEq, if_true, if_false]
  rw [e1, e2]
  have o1 := op_primary 4 n m nm v key kids (by omega) hr hd l1 l2 l3
  clear e1 e2 hr hd l1 l2 l3
  generalize prmT 4 n m nm key = s at *
  simp only [trV] at o1 ⊢
  generalize trVs kids = xs at *
  rw [callL_enter (fn := Tryd.f22) (c := Tryd.f22.body.getD .skip) rfl rfl fat_print_text rfl ok_print_text (Nat.le_of_ble_eq_true rfl)]
  obtain ⟨ev, eo, so, co, ⟨hev, hco⟩, R⟩ := RULES CC; rw [← hev]
  rw [← hco] at o1
  simp only [fpart, part', Tryd.f22, Option.getD]
  simp (maxSteps := 5000000) only [SA, SB, SD, R, guardAt, binP, intP, indexAddrP, elemsOf, readCells, lenP, lenAt, resultsP, resultP, oneOr, reduceCtorEq, reduceIte, Nat.reduceEqDiff, Nat.reduceAdd, Nat.zero_add, Nat.reduceMul, Nat.reduceLT, Nat.reduceLeDiff, Int.reduceLT, Int.reduceNeg, Int.reduceLE, appendP, appendAt, letGo, setLoc, locVal, Int.reduceToNat, boxCells, und, TG, SE, SC, TRf, ss1, htu, htr, hky, unP, extP, loadR, loadP, storeR, storeK, storeCellsP, laid, lay, setBox, List.getElem?_concat_length, List.length_cons, List.length_nil, Nat.le_refl, List.take_nil, List.take_succ_cons, List.take_zero, List.drop_succ_cons, List.drop_zero, List.drop_nil, List.filter_nil, List.cons_append, List.getElem?_cons_zero, List.getElem?_cons_succ, List.nil_append, Int.reduceBEq, Int.reduceBNe, Int.reduceGT, Int.reduceGE, Int.reduceEq, Bool.not_true, Bool.not_false, o1]
  exact ⟨_, rfl⟩
theorem call_text_5 (n m : Int) (nm : List UInt8) (v : Vl) (key : Ky) (kids : List Tr) (hr : rgB 5 n m key.1 = true) (hd : inI key.1) (l1 : nm.length ≤ 100) (l2 : key.2.1.length ≤ 100) (l3 : key.2.2.length ≤ 100) : ∃ bx, callL CC 22 [trV (.mk 5 n m nm v key kids)] [] = some (.ret (.tup [.str (TX (.mk 5 n m nm v key kids)), .int .i64 (LV (.mk 5 n m nm v key kids))]), bx) := by
  obtain ⟨tu, htu⟩ := VLs
  obtain ⟨tr, htr⟩ := TRs
  obtain ⟨tk, hky⟩ := KYs
  have e1 : TX (.mk 5 n m nm v key kids) = prmT 5 n m nm key := by rw [TX_eq]; unfold bdT; simp only [Int.reduceEq, if_true, if_false]
  have e2 : LV (.mk 5 n m nm v key kids) = 8 := by rw [LV_eq]; unfold blT; simp only [Int.reduceEq, if_true, if_false]
  rw [e1, e2]
  have o1 := op_primary 5 n m nm v key kids (by omega) hr hd l1 l2 l3
  clear e1 e2 hr hd l1 l2 l3
  generalize prmT 5 n m nm key = s at *
  simp only [trV] at o1 ⊢
  generalize trVs kids = xs at *
  rw [callL_enter (fn := Tryd.f22) (c := Tryd.f22.body.getD .skip) rfl rfl fat_print_text rfl ok_print_text (Nat.le_of_ble_eq_true rfl)]
  obtain ⟨ev, eo, so, co, ⟨hev, hco⟩, R⟩ := RULES CC; rw [← hev]
  rw [← hco] at o1
  simp only [fpart, part', Tryd.f22, Option.getD]
  simp (maxSteps := 5000000) only [SA, SB, SD, R, guardAt, binP, intP, indexAddrP, elemsOf, readCells, lenP, lenAt, resultsP, resultP, oneOr, reduceCtorEq, reduceIte, Nat.reduceEqDiff, Nat.reduceAdd, Nat.zero_add, Nat.reduceMul, Nat.reduceLT, Nat.reduceLeDiff, Int.reduceLT, Int.reduceNeg, Int.reduceLE, appendP, appendAt, letGo, setLoc, locVal, Int.reduceToNat, boxCells, und, TG, SE, SC, TRf, ss1, htu, htr, hky, unP, extP, loadR, loadP, storeR, storeK, storeCellsP, laid, lay, setBox, List.getElem?_concat_length, List.length_cons, List.length_nil, Nat.le_refl, List.take_nil, List.take_succ_cons, List.take_zero, List.drop_succ_cons, List.drop_zero, List.drop_nil, List.filter_nil, List.cons_append, List.getElem?_cons_zero, List.getElem?_cons_succ, List.nil_append, Int.reduceBEq, Int.reduceBNe, Int.reduceGT, Int.reduceGE, Int.reduceEq, Bool.not_true, Bool.not_false, o1]
  exact ⟨_, rfl⟩
theorem call_text_15 (n m : Int) (nm : List UInt8) (v : Vl) (key : Ky) (kids : List Tr) (hr : rgB 15 n m key.1 = true) (hd : inI key.1) (l1 : nm.length ≤ 100) (l2 : key.2.1.length ≤ 100) (l3 : key.2.2.length ≤ 100) : ∃ bx, callL CC 22 [trV (.mk 15 n m nm v key kids)] [] = some (.ret (.tup [.str (TX (.mk 15 n m nm v key kids)), .int .i64 (LV (.mk 15 n m nm v key kids))]), bx) := by
  obtain ⟨tu, htu⟩ := VLs
  obtain ⟨tr, htr⟩ := TRs
  obtain ⟨tk, hky⟩ := KYs
  have e1 : TX (.mk 15 n m nm v key kids) = prmT 15 n m nm key := by rw [TX_eq]; unfold bdT; simp only [Int.reduceEq, if_true, if_false]
  have e2 : LV (.mk 15 n m nm v key kids) = 8 := by rw [LV_eq]; unfold blT; simp only [Int.reduceEq, if_true, if_false]
  rw [e1, e2]
  have o1 := op_primary 15 n m nm v key kids (by omega) hr hd l1 l2 l3
  clear e1 e2 hr hd l1 l2 l3
  generalize prmT 15 n m nm key = s at *
  simp only [trV] at o1 ⊢
  generalize trVs kids = xs at *
  rw [callL_enter (fn := Tryd.f22) (c := Tryd.f22.body.getD .skip) rfl rfl fat_print_text rfl ok_print_text (Nat.le_of_ble_eq_true rfl)]
  obtain ⟨ev, eo, so, co, ⟨hev, hco⟩, R⟩ := RULES CC; rw [← hev]
  rw [← hco] at o1
  simp only [fpart, part', Tryd.f22, Option.getD]
  simp (maxSteps := 5000000) only [SA, SB, SD, R, guardAt, binP, intP, indexAddrP, elemsOf, readCells, lenP, lenAt, resultsP, resultP, oneOr, reduceCtorEq, reduceIte, Nat.reduceEqDiff, Nat.reduceAdd, Nat.zero_add, Nat.reduceMul, Nat.reduceLT, Nat.reduceLeDiff, Int.reduceLT, Int.reduceNeg, Int.reduceLE, appendP, appendAt, letGo, setLoc, locVal, Int.reduceToNat, boxCells, und, TG, SE, SC, TRf, ss1, htu, htr, hky, unP, extP, loadR, loadP, storeR, storeK, storeCellsP, laid, lay, setBox, List.getElem?_concat_length, List.length_cons, List.length_nil, Nat.le_refl, List.take_nil, List.take_succ_cons, List.take_zero, List.drop_succ_cons, List.drop_zero, List.drop_nil, List.filter_nil, List.cons_append, List.getElem?_cons_zero, List.getElem?_cons_succ, List.nil_append, Int.reduceBEq, Int.reduceBNe, Int.reduceGT, Int.reduceGE, Int.reduceEq, Bool.not_true, Bool.not_false, o1]
  exact ⟨_, rfl⟩
theorem prm_len (k n m : Int) (nm : List UInt8) (key : Ky) (hk : k = 2 ∨ k = 3 ∨ k = 4 ∨ k = 5 ∨ k = 15) (hr : rgB k n m key.1 = true) (hd : inI key.1) (l1 : nm.length ≤ 100) (l2 : key.2.1.length ≤ 100) (l3 : key.2.2.length ≤ 100) : (prmT k n m nm key).length ≤ 300 := by
  have hi := itoa_length hd
  have hdl : ∀ w ∈ dayW, w.length = 3 := by decide
  have hdy : ∀ (l : List (List UInt8)) (q : Nat), (∀ w ∈ l, w.length = 3) → (dayL q l).length ≤ 4 * l.length := by
    intro l
    induction l with
    | nil => intro q _; simp [dayL]
    | cons w r ih =>
      intro q hw
      have h3 := hw w List.mem_cons_self
      have hr := ih (q / 2) (fun x hx => hw x (List.mem_cons_of_mem _ hx))
      unfold dayL
      split
      · split
        · simp only [List.length_cons]; omega
        · simp only [List.length_append, List.length_cons]; omega
      · simp only [List.length_cons]; omega
  have hd2 := hdy dayW n.toNat hdl
  have h7 : dayW.length = 7 := rfl
  unfold prmT
  split
  · unfold dotT
    simp only [cat_len, List.length_singleton]
    omega
  split
  · simp only [cat_len, List.length_cons, List.length_nil]
    omega
  split
  · have e1 : (clkT n.toNat).length = 5 := rfl
    have e2 : (clkT m.toNat).length = 5 := rfl
    simp only [cat_len, List.length_cons, List.length_nil, e1, e2]
    omega
  split
  · unfold dayN
    simp only [List.length_append, List.length_cons, List.length_nil]
    omega
  · unfold homeN
    split <;> decide
theorem pr_len (v : Vl) (h : inI v.2.1) : (prV v).length ≤ 300 := by
  unfold prV
  have hi := itoa_length h
  split
  · simp
  · rename_i hc
    have hk := ck_len (v := v) (by omega)
    split
    · decide
    · split
      · split <;> decide
      · split
        · omega
        · split
          · simp only [List.length_cons]; omega
          · have := flat_le v.2.2
            have := quoteL_length v.2.2
            omega
set_option maxHeartbeats 4000000
/-- what a valid node is -/
theorem nd_ok {k n m : Int} {nm : List UInt8} {v : Vl} {key : Ky} {kids : List Tr} (h : ndT (.mk k n m nm v key kids) = 0) : 1 ≤ k ∧ k ≤ 15 ∧ kdB k kids.length = true ∧ rgB k n m key.1 = true ∧ (k = 1 → ckV v = 0 ∧ v.1 ≠ 0) := by
  unfold ndT at h
  dsimp only at h
  by_cases h1 : k < 1 ∨ 15 < k
  · rw [if_pos h1] at h; simp at h
  rw [if_neg h1] at h
  by_cases h2 : kdB k kids.length = false ∨ spT (.mk k n m nm v key kids) = true
  · rw [if_pos h2] at h; simp at h
  rw [if_neg h2] at h
  by_cases h3 : rgB k n m key.1 = false
  · rw [if_pos h3] at h; simp at h
  rw [if_neg h3] at h
  have b2 : kdB k kids.length = true := by
    cases hb : kdB k kids.length with
    | true => rfl
    | false => exact absurd (.inl hb) h2
  have b3 : rgB k n m key.1 = true := by
    cases hb : rgB k n m key.1 with
    | true => rfl
    | false => exact absurd hb h3
  refine ⟨by omega, by omega, b2, b3, fun hk => ?_⟩
  rw [if_neg (by omega), if_neg (by omega), if_pos hk] at h
  by_cases hc : ckV v ≠ 0
  · rw [if_pos hc] at h; exact absurd h hc
  rw [if_neg hc] at h
  by_cases h0 : v.1 = 0
  · rw [if_pos h0] at h; simp at h
  exact ⟨by omega, h0⟩
theorem kd_le {k : Int} {l : List Tr} (hk : 1 ≤ k ∧ k ≤ 15) (h : kdB k l.length = true) : l.length ≤ 8 := by
  unfold kdB at h
  split at h
  · have := eq_of_beq h; omega
  split at h
  · rw [Bool.and_eq_true] at h
    have := of_decide_eq_true h.2
    omega
  split at h
  · have := eq_of_beq h; omega
  split at h
  · have := eq_of_beq h; omega
  · have := eq_of_beq h; omega
/-- the kids' texts together -/
def smS : List Tr → Nat
  | [] => 0
  | t :: r => (TX t).length + 20 + smS r
theorem row_len (op : List UInt8) (ho : op.length ≤ 10) (least : Int) : ∀ (l : List Tr) (i : Nat) (acc : List UInt8), (rowS op least (ans l) i acc).length ≤ acc.length + smS l
  | [], i, acc => by unfold ans rowS smS; omega
  | t :: r, i, acc => by
    unfold ans rowS smS
    have h := row_len op ho least r (i + 1) (cat (if 0 < i then cat acc (cat (cat [32] op) [32]) else acc) (kdS (an t) least))
    have k := kdS_len (an t) least
    have e : TX t = (an t).s := rfl
    rw [e]
    have h2 : (if 0 < i then cat acc (cat (cat [32] op) [32]) else acc).length ≤ acc.length + 12 := by
      split <;> (try simp only [cat_len, List.length_singleton]) <;> omega
    rw [cat_len] at h
    omega
theorem ng_len {k n m : Int} {nm : List UInt8} {v : Vl} {key : Ky} {kids : List Tr} (hv : kdB k kids.length = true) : (ngS k (an (.mk k n m nm v key kids))).length ≤ (TX (.mk k n m nm v key kids)).length + 7 := by
  unfold ngS
  by_cases k9 : k = 9
  · subst k9
    obtain ⟨a, c, rfl⟩ := kd_two (k := 9) (by omega) hv
    rw [if_pos rfl, an_ks, TX_eq]
    unfold bdT
    simp only [Int.reduceEq, if_true, if_false]
    simp only [prS, kidsOf, cat_len, List.length_cons, List.length_nil]
    omega
  by_cases k10 : k = 10
  · subst k10
    obtain ⟨a, c, rfl⟩ := kd_two (k := 10) (by omega) hv
    rw [if_neg (by omega), if_pos rfl, an_ks, TX_eq]
    unfold bdT
    simp only [Int.reduceEq, if_true, if_false]
    simp only [prS, kidsOf, cat_len, List.length_cons, List.length_nil]
    omega
  rw [if_neg k9, if_neg k10, cat_len]
  have := kdS_len (an (.mk k n m nm v key kids)) 3
  have e : TX (.mk k n m nm v key kids) = (an (.mk k n m nm v key kids)).s := rfl
  rw [e]
  simp only [List.length_cons, List.length_nil]
  omega
theorem node_len {k n m : Int} {nm : List UInt8} {v : Vl} {key : Ky} {kids : List Tr} (h : ndT (.mk k n m nm v key kids) = 0) (hnd : ∀ t ∈ kids, ∃ k n m nm v key l, t = .mk k n m nm v key l ∧ ndT t = 0) (l1 : nm.length ≤ 100) (l2 : key.2.1.length ≤ 100) (l3 : key.2.2.length ≤ 100) (hi : inI v.2.1) (hd : inI key.1) :
    (TX (.mk k n m nm v key kids)).length ≤ 400 + smS kids := by
  obtain ⟨g1, g2, g3, g4, g5⟩ := nd_ok h
  rw [TX_eq]
  have hk2 : ∀ (l1 : Int) (op : List UInt8) (l2 : Int) (a c : Tr), (prS (an a) l1 op (an c) l2).length ≤ (TX a).length + (TX c).length + 6 + op.length := fun l1 op l2 a c => by
    have := kdS_len (an a) l1
    have := kdS_len (an c) l2
    have e1 : TX a = (an a).s := rfl
    have e2 : TX c = (an c).s := rfl
    rw [e1, e2]
    unfold prS
    simp only [cat_len, List.length_singleton]
    omega
  have hcase : k = 1 ∨ k = 14 ∨ k = 8 ∨ k = 7 ∨ k = 6 ∨ k = 9 ∨ k = 10 ∨ k = 11 ∨ k = 12 ∨ k = 13 ∨ (k = 2 ∨ k = 3 ∨ k = 4 ∨ k = 5 ∨ k = 15) := by omega
  rcases hcase with rfl | rfl | rfl | rfl | rfl | rfl | rfl | rfl | rfl | rfl | hp
  · unfold bdT
    simp only [Int.reduceEq, if_true, if_false]
    have := pr_len v hi
    omega
  · obtain ⟨a, c, d, rfl⟩ := kd_three g3
    unfold bdT
    simp only [Int.reduceEq, if_true, if_false]
    have f1 := kdS_len (an a) 0
    have f2 := kdS_len (an c) 0
    have f3 := kdS_len (an d) 0
    have e1 : TX a = (an a).s := rfl
    have e2 : TX c = (an c).s := rfl
    have e3 : TX d = (an d).s := rfl
    have a0 : atG (ans [a, c, d]) 0 = an a := rfl
    have a1 : atG (ans [a, c, d]) 1 = an c := rfl
    have a2 : atG (ans [a, c, d]) 2 = an d := rfl
    rw [a0, a1, a2]
    simp only [smS, cat_len, List.length_cons, List.length_nil, e1, e2, e3]
    omega
  · unfold bdT
    simp only [Int.reduceEq, if_true, if_false]
    have := row_len [111, 114] (by decide) 2 kids 0 []
    simp only [List.length_nil] at this
    omega
  · unfold bdT
    simp only [Int.reduceEq, if_true, if_false]
    have := row_len [97, 110, 100] (by decide) 3 kids 0 []
    simp only [List.length_nil] at this
    omega
  · obtain ⟨a, rfl⟩ := kd_one g3
    obtain ⟨k', n', m', nm', v', key', l', rfl, hnn⟩ := hnd a (by simp)
    obtain ⟨_, _, q3, _, _⟩ := nd_ok hnn
    have := ng_len (n := n') (m := m') (nm := nm') (v := v') (key := key') q3
    have e : bdT 6 n m nm v key [.mk k' n' m' nm' v' key' l'] (ans [.mk k' n' m' nm' v' key' l']) = ngS k' (an (.mk k' n' m' nm' v' key' l')) := by
      unfold bdT
      simp only [Int.reduceEq, if_true, if_false]
      rfl
    rw [e]
    simp only [smS]
    omega
  · obtain ⟨a, c, rfl⟩ := kd_two (k := 9) (by omega) g3
    unfold bdT
    simp only [Int.reduceEq, if_true, if_false]
    have a0 : atG (ans [a, c]) 0 = an a := rfl
    have a1 : atG (ans [a, c]) 1 = an c := rfl
    rw [a0, a1]
    have := hk2 5 [61, 61] 5 a c
    simp only [List.length_cons, List.length_nil] at this
    simp only [smS]
    omega
  · obtain ⟨a, c, rfl⟩ := kd_two (k := 10) (by omega) g3
    unfold bdT
    simp only [Int.reduceEq, if_true, if_false]
    have a0 : atG (ans [a, c]) 0 = an a := rfl
    have a1 : atG (ans [a, c]) 1 = an c := rfl
    rw [a0, a1]
    have := hk2 5 [60] 5 a c
    simp only [List.length_cons, List.length_nil] at this
    simp only [smS]
    omega
  · obtain ⟨a, c, rfl⟩ := kd_two (k := 11) (by omega) g3
    unfold bdT
    simp only [Int.reduceEq, if_true, if_false]
    have a0 : atG (ans [a, c]) 0 = an a := rfl
    have a1 : atG (ans [a, c]) 1 = an c := rfl
    rw [a0, a1]
    have := hk2 5 [43] 6 a c
    simp only [List.length_cons, List.length_nil] at this
    simp only [smS]
    omega
  · obtain ⟨a, c, rfl⟩ := kd_two (k := 12) (by omega) g3
    unfold bdT
    simp only [Int.reduceEq, if_true, if_false]
    have a0 : atG (ans [a, c]) 0 = an a := rfl
    have a1 : atG (ans [a, c]) 1 = an c := rfl
    rw [a0, a1]
    have := hk2 5 [45] 6 a c
    have f := kdS_len (an c) 7
    have e : TX c = (an c).s := rfl
    simp only [List.length_cons, List.length_nil] at this
    simp only [smS]
    split
    · simp only [cat_len, List.length_cons, List.length_nil, e]
      omega
    · omega
  · obtain ⟨a, c, rfl⟩ := kd_two (k := 13) (by omega) g3
    unfold bdT
    simp only [Int.reduceEq, if_true, if_false]
    have a0 : atG (ans [a, c]) 0 = an a := rfl
    have a1 : atG (ans [a, c]) 1 = an c := rfl
    rw [a0, a1]
    have := hk2 6 [42] 7 a c
    simp only [List.length_cons, List.length_nil] at this
    simp only [smS]
    omega
  · have := prm_len k n m nm key hp g4 hd l1 l2 l3
    have e : bdT k n m nm v key kids (ans kids) = prmT k n m nm key := by
      unfold bdT
      rw [if_neg (by omega), if_neg (by omega), if_neg (by omega), if_neg (by omega), if_neg (by omega), if_neg (by omega), if_neg (by omega), if_neg (by omega), if_neg (by omega), if_neg (by omega)]
    rw [e]
    omega
theorem v_nd : ∀ l : List Tr, vTs l → ∀ t ∈ l, ∃ k n m nm v key l', t = .mk k n m nm v key l' ∧ ndT t = 0 := fun l h t ht => by
  have hv := (vTs_iff l).1 h t ht
  obtain ⟨k, n, m, nm, v, key, l'⟩ := t
  unfold vT at hv
  exact ⟨k, n, m, nm, v, key, l', rfl, hv.1⟩
mutual
theorem an_len (t : Tr) (hv : vT t) (hs : shT t) (ho : okTr t) : (TX t).length ≤ 600 * ndC t := by
  match t with
  | .mk k n m nm v key kids =>
    unfold vT at hv
    unfold shT at hs
    unfold okTr at ho
    unfold ndC
    obtain ⟨o1, o2, o3, o4, o5, o6, o7, o8⟩ := ho
    have h1 := node_len hv.1 (v_nd kids hv.2) hs.1.1 hs.1.2.2.1 hs.1.2.2.2.1 o5.2.1 o6.1
    have h2 := ans_len kids hv.2 hs.2 o8
    obtain ⟨g1, g2, g3, _, _⟩ := nd_ok hv.1
    have h3 := kd_le ⟨g1, g2⟩ g3
    omega
theorem ans_len (l : List Tr) (hv : vTs l) (hs : shTs l) (ho : okTrs l) : smS l ≤ 600 * ndCs l + 20 * l.length := by
  match l with
  | [] => unfold smS ndCs; omega
  | t :: r =>
    unfold vTs at hv
    unfold shTs at hs
    unfold okTrs at ho
    unfold smS ndCs
    have h1 := an_len t hv.1 hs.1 ho.1
    have h2 := ans_len r hv.2 hs.2 ho.2
    rw [List.length_cons]
    omega
end
theorem TXc_of {t : Tr} (h : ∃ bx, callL CC 22 [trV t] [] = some (.ret (.tup [.str (TX t), .int .i64 (LV t)]), bx)) : TXc t := fun bx => by
  obtain ⟨c, hc⟩ := h
  exact callOp_of rfl (by simp only [pureL_cons, trV_pure, pureL_nil, Bool.and_self]) hc rfl
theorem len_all {l : List Tr} (hv : vTs l) (hs : shTs l) (ho : okTrs l) (hn : ndCs l ≤ 300) : ∀ t ∈ l, (TX t).length ≤ 200000 := by
  induction l with
  | nil => intro t ht; cases ht
  | cons a r ih =>
    unfold vTs at hv
    unfold shTs at hs
    unfold okTrs at ho
    unfold ndCs at hn
    intro t ht
    rcases List.mem_cons.1 ht with rfl | ht
    · have := an_len t hv.1 hs.1 ho.1; omega
    · exact ih hv.2 hs.2 ho.2 (by omega) t ht
mutual
theorem tx_ok (t : Tr) (hv : vT t) (hs : shT t) (ho : okTr t) (hn : ndC t ≤ 300) : TXc t ∧ ∀ y ∈ kidsOf t, TXc y := by
  match t with
  | .mk k n m nm v key kids =>
    unfold vT at hv
    unfold shT at hs
    unfold okTr at ho
    unfold ndC at hn
    obtain ⟨o1, o2, o3, o4, o5, o6, o7, o8⟩ := ho
    have hk := txs_ok kids hv.2 hs.2 o8 (by omega)
    have hl := len_all hv.2 hs.2 o8 (by omega)
    have hkk : ∀ t ∈ kids, TXc t ∧ (TX t).length ≤ 200000 := fun t ht => ⟨(hk t ht).1, hl t ht⟩
    obtain ⟨g1, g2, g3, g4, g5⟩ := nd_ok hv.1
    have h8 := kd_le ⟨g1, g2⟩ g3
    refine ⟨TXc_of ?_, fun y hy => (hk y hy).1⟩
    have hcase : k = 1 ∨ k = 14 ∨ k = 8 ∨ k = 7 ∨ k = 6 ∨ k = 9 ∨ k = 10 ∨ k = 11 ∨ k = 12 ∨ k = 13 ∨ k = 2 ∨ k = 3 ∨ k = 4 ∨ k = 5 ∨ k = 15 := by omega
    rcases hcase with rfl | rfl | rfl | rfl | rfl | rfl | rfl | rfl | rfl | rfl | rfl | rfl | rfl | rfl | rfl
    · exact call_text_1 n m nm v key kids o5.2.1 (g5 rfl).1 (g5 rfl).2
    · exact call_text_14 n m nm v key kids g3 hkk
    · exact call_text_8 n m nm v key kids (by omega) hkk
    · exact call_text_7 n m nm v key kids (by omega) hkk
    · obtain ⟨a, rfl⟩ := kd_one g3
      refine call_text_6 n m nm v key _ a rfl ?_
      have ha := hk a (by simp)
      have hla := hl a (by simp)
      obtain ⟨hva, _⟩ := hv.2
      obtain ⟨hsa, _⟩ := hs.2
      unfold okTrs at o8
      have hoa := o8.1
      unfold ndCs at hn
      obtain ⟨k', n', m', nm', v', key', kids'⟩ := a
      unfold vT at hva
      unfold shT at hsa
      unfold okTr at hoa
      unfold ndC at hn
      have hl' := len_all hva.2 hsa.2 hoa.2.2.2.2.2.2.2 (by omega)
      obtain ⟨_, _, q3, _, _⟩ := nd_ok hva.1
      exact op_negated k' n' m' nm' v' key' kids' q3 ha.1 hla (fun t ht => ⟨ha.2 t ht, hl' t ht⟩)
    · exact call_text_9 n m nm v key kids g3 hkk
    · exact call_text_10 n m nm v key kids g3 hkk
    · exact call_text_11 n m nm v key kids g3 hkk
    · exact call_text_12 n m nm v key kids g3 hkk
    · exact call_text_13 n m nm v key kids g3 hkk
    · exact call_text_2 n m nm v key kids g4 o6.1 hs.1.1 hs.1.2.2.1 hs.1.2.2.2.1
    · exact call_text_3 n m nm v key kids g4 o6.1 hs.1.1 hs.1.2.2.1 hs.1.2.2.2.1
    · exact call_text_4 n m nm v key kids g4 o6.1 hs.1.1 hs.1.2.2.1 hs.1.2.2.2.1
    · exact call_text_5 n m nm v key kids g4 o6.1 hs.1.1 hs.1.2.2.1 hs.1.2.2.2.1
    · exact call_text_15 n m nm v key kids g4 o6.1 hs.1.1 hs.1.2.2.1 hs.1.2.2.2.1
theorem txs_ok (l : List Tr) (hv : vTs l) (hs : shTs l) (ho : okTrs l) (hn : ndCs l ≤ 300) : ∀ t ∈ l, TXc t ∧ ∀ y ∈ kidsOf t, TXc y := by
  match l with
  | [] => intro t ht; cases ht
  | a :: r =>
    unfold vTs at hv
    unfold shTs at hs
    unfold okTrs at ho
    unfold ndCs at hn
    have h1 := tx_ok a hv.1 hs.1 ho.1 (by omega)
    have h2 := txs_ok r hv.2 hs.2 ho.2 (by omega)
    intro t ht
    rcases List.mem_cons.1 ht with rfl | ht
    · exact h1
    · exact h2 t ht
end
end Go.HH
