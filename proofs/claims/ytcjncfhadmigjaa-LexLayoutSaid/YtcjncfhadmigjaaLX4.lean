/-
  Quoted strings: a builder written byte by byte; the program's reading of a quoted string.
-/
import Derived.Test.YtcjncfhadmigjaaLX3
namespace Go.HH
open Go Go.Proofs
set_option maxRecDepth 100000
set_option linter.unusedSimpArgs false
set_option linter.unusedVariables false
theorem ok_strings_Builder_WriteByte : fnOK CC Try.f53 (Try.f53.body.getD .skip) = true := by kernel_rfl
theorem fat_strings_Builder_WriteByte : CC.P.funcs[53]? = some Try.f53 := by kernel_rfl
theorem ok_names_quoted : fnOK CC Try.f46 (Try.f46.body.getD .skip) = true := by kernel_rfl
theorem fat_names_quoted : CC.P.funcs[46]? = some Try.f46 := by kernel_rfl
theorem ok_names_Unquote : fnOK CC Try.f41 (Try.f41.body.getD .skip) = true := by kernel_rfl
theorem fat_names_Unquote : CC.P.funcs[41]? = some Try.f41 := by kernel_rfl
/-- a list of bytes -/
def bys (l : List UInt8) : List PV := l.map fun b => .int .u8 (b.toNat : Int)
theorem bytesOf_bys (l : List UInt8) : bytesOf (bys l) = some l := by
  induction l with
  | nil => rfl
  | cons b r ih =>
    show (bytesOf (bys r)).map (UInt8.ofNat ((b.toNat : Int)).toNat :: ·) = some (b :: r)
    rw [ih, Int.toNat_natCast, UInt8.ofNat_toNat]
    rfl
theorem bys_length (l : List UInt8) : (bys l).length = l.length := by simp [bys]
theorem bys_all (l : List UInt8) : ((bys l).all fun y => y.cells.length == 1) = true := by
  rw [List.all_eq_true]
  intro x hx
  obtain ⟨b, _, rfl⟩ := List.mem_map.1 hx
  rfl
theorem bys_byteV (l : List UInt8) : (bys l).all byteV = true := by
  rw [List.all_eq_true]
  intro x hx
  obtain ⟨b, _, rfl⟩ := List.mem_map.1 hx
  have := UInt8.toNat_lt b
  simp [byteV]
  omega
theorem pureL_bys (l : List UInt8) : pureL (bys l) = true := by
  induction l with
  | nil => rfl
  | cons b r ih => simpa [bys, pureL, PV.pure] using ih
theorem underL_bys (n : Nat) (l : List UInt8) : underL n (bys l) = true := by
  induction l with
  | nil => rfl
  | cons b r ih => simpa [bys, underL, PV.under] using ih
theorem bys_snoc (l : List UInt8) (n : Nat) (h : n < 256) : bys l ++ [.int .u8 (n : Int)] = bys (l ++ [UInt8.ofNat n]) := by
  unfold bys
  rw [List.map_append]
  congr 1
  simp only [List.map_cons, List.map_nil]
  rw [UInt8.toNat_ofNat']
  congr 2
  omega
theorem bs_u8 (n : Int) : buildSliceP CC 38 1 [(0, .int .u8 n)] = some (.osl 5 [.int .u8 n]) := by
  have hz : tZero CC 5 = some (.int .u8 0) := by kernel_rfl
  have hi : ∃ i, CC.P.info? 5 = some i ∧ i.size = 1 := ⟨(Try.prog.info? 5).getD default, by kernel_rfl, by kernel_rfl⟩
  obtain ⟨i, hi, hs⟩ := hi
  unfold buildSliceP
  simp only [TG, hz, hi, hs]
  rfl
noncomputable def IB : TypeInfo := (Try.prog.info? 5).getD default
theorem ap_u8 (st : St) (al : List (Nat × Loc)) (s x : Operand) (d : Option Tmp) : appendOn CC st al s x 38 38 d = match appendAt CC st al 5 s, elemsOf (opd CC st.env x) with
      | some (l, xs), some ys => appK 1 1 5 st al l xs ys d
      | _, _ => none := appendOn_eq (i := IB) (by kernel_rfl) (by kernel_rfl) (by kernel_rfl) (z := .int .u8 0) (by kernel_rfl) (by kernel_rfl) (by rw [show IB.size = 1 from by kernel_rfl]; decide) (by kernel_rfl) (by kernel_rfl)
/-- what a builder holds: nothing, or bytes -/
def bufV (l : List UInt8) : PV := if l = [] then .nils else .osl 5 (bys l)
theorem truncB_same {n : Nat} {r : CR} {bx : List PBox} (h : bx.length ≤ n) : truncB n r bx = bx := by
  unfold truncB
  split
  · exact List.take_of_length_le h
  · rfl
theorem op_copyCheck (p : PV) (hp : p = .nilp ∨ p = .bp 0 0) (q : PV) (hq : q.under 1 = true) : callOp CC (callL CC) 59 [.bp 0 0] [.cells 62 [p, q]] = some (.ret (.tup []), [.cells 62 [.bp 0 0, q]]) := by
  have hh : CC.hprim 59 = some ccP := rfl
  have hc : callL CC 59 [.bp 0 0] [.cells 62 [p, q]] = some (.ret (.tup []), [.cells 62 [.bp 0 0, q]]) := by
    unfold callL bodyP
    rw [hh]
    rcases hp with rfl | rfl <;> rfl
  unfold callOp
  rw [if_pos (by rfl), hc]
  simp only
  unfold truncB
  split <;> rfl
theorem op_bString (l : List UInt8) (p : PV) : callL CC 54 [.bp 0 0] [.cells 62 [p, bufV l]] = some (.ret (.str l), [.cells 62 [p, if l = [] then .nils else .sl (bys l)]]) := by
  have hh : CC.hprim 54 = some bstrP := rfl
  unfold callL bodyP
  rw [hh]
  unfold bufV
  by_cases h : l = []
  · subst h; rfl
  · rw [if_neg h, if_neg h]
    have h1 : (bys l).isEmpty = false := by cases l with | nil => exact absurd rfl h | cons => rfl
    show Option.map _ (bstrP [.bp 0 0] [.cells 62 [p, .osl 5 (bys l)]]) = _
    unfold bstrP
    simp only [List.getElem?_cons_zero]
    rw [if_pos (show _ ∧ _ from by simp only [h1, bys_byteV l, and_self]), bytesOf_bys]
    rfl
theorem call_WriteByte (l : List UInt8) (hl : l.length ≤ 900000) (p : PV) (hp : p = .nilp ∨ p = .bp 0 0) (n : Nat) (hn : n < 256) : callL CC 53 [.bp 0 0, .int .u8 (n : Int)] [.cells 62 [p, bufV l]] =
    some (.ret .nili, [.cells 62 [.bp 0 0, .osl 5 (bys (l ++ [UInt8.ofNat n]))]]) := by
  rw [callL_enter (fn := Try.f53) (c := Try.f53.body.getD .skip) rfl rfl fat_strings_Builder_WriteByte rfl ok_strings_Builder_WriteByte (Nat.le_of_ble_eq_true rfl)]
  have hbl := bys_length l
  have hq : (bufV l).under 1 = true := by
    unfold bufV
    split
    · rfl
    · simpa [PV.under] using underL_bys 1 l
  have ho := op_copyCheck p hp (bufV l) hq
  have hsn := bys_snoc l n hn
  have hlen : (bys l).length + 1 ≤ 1000000 := by omega
  obtain ⟨ev, eo, so, co, ⟨hev, hco⟩, R⟩ := RULES CC; rw [← hev]
  rw [← hco] at ho
  have hpn : pureL [.bp 0 0] = false := rfl
  simp only [fpart, part', Try.f53, Option.getD]
  unfold bufV at *
  by_cases h : l = []
  · subst h
    rw [if_pos rfl] at ho ⊢
    have hsn : [PV.int .u8 (n : Int)] = bys ([] ++ [UInt8.ofNat n]) := hsn
    simp (maxSteps := 5000000) only [SA, SB, SD, R, guardAt, binP, intP, indexAddrP, elemsOf, readCells, lenP, lenAt, resultsP, resultP, oneOr, reduceCtorEq, reduceIte, Nat.reduceEqDiff, Nat.reduceAdd, Nat.zero_add, Nat.reduceMul, Nat.reduceLT, Nat.reduceLeDiff, Int.reduceLT, Int.reduceNeg, Int.reduceLE, appendP, appendAt, letGo, setLoc, locVal, Int.reduceToNat, boxCells, und, TG, SE, ho, loadR, loadP, storeR, storeCellsP, laid, lay, setBox, nchP, callAl, List.filter_nil, List.getD_cons_succ, List.getD_cons_zero, bs_u8, ap_u8]
    rw [show [PV.int .u8 (n : Int)] = bys [UInt8.ofNat n] from hsn]
    rfl
  · rw [if_neg h] at ho ⊢
    simp (maxSteps := 5000000) only [SA, SB, SD, R, guardAt, binP, intP, indexAddrP, elemsOf, readCells, lenP, lenAt, resultsP, resultP, oneOr, reduceCtorEq, reduceIte, Nat.reduceEqDiff, Nat.reduceAdd, Nat.zero_add, Nat.reduceMul, Nat.reduceLT, Nat.reduceLeDiff, Int.reduceLT, Int.reduceNeg, Int.reduceLE, appendP, appendAt, letGo, setLoc, locVal, Int.reduceToNat, boxCells, und, TG, SE, ho, loadR, loadP, storeR, storeCellsP, laid, lay, setBox, nchP, callAl, List.filter_nil, List.getD_cons_succ, List.getD_cons_zero, bs_u8, ap_u8, hlen, List.set_cons_zero, List.set_cons_succ, List.take_succ_cons, List.take_zero, List.drop_nil, Nat.le_refl]
    rw [hsn]
    rfl
/-- the rest of a quoted string: its bytes, and how many bytes its forms take up to the quote; nothing if there is no such form -/
def unqL : Nat → List UInt8 → Option (List UInt8 × Nat)
  | 0, _ => none
  | m + 1, s => match s with
    | [] => none
    | c :: _ => if c.toNat = 34 then some ([], 0)
      else if (nextL s).2 = 0 then none
      else (unqL m (s.drop (nextL s).2)).map fun r => (UInt8.ofNat (nextL s).1 :: r.1, (nextL s).2 + r.2)
theorem call_op_WriteByte (l : List UInt8) (hl : l.length ≤ 900000) (p : PV) (hp : p = .nilp ∨ p = .bp 0 0) (n : Nat) (hn : n < 256) : callOp CC (callL CC) 53 [.bp 0 0, .int .u8 (n : Int)] [.cells 62 [p, bufV l]] =
    some (.ret .nili, [.cells 62 [.bp 0 0, bufV (l ++ [UInt8.ofNat n])]]) := by
  have h := call_WriteByte l hl p hp n hn
  unfold callOp
  rw [if_pos (by rfl), h]
  have hb : bufV (l ++ [UInt8.ofNat n]) = .osl 5 (bys (l ++ [UInt8.ofNat n])) := by
    unfold bufV
    rw [if_neg (by simp)]
  rw [hb]
  simp only
  unfold truncB
  split <;> rfl
theorem call_op_bString (l : List UInt8) (p : PV) : callOp CC (callL CC) 54 [.bp 0 0] [.cells 62 [p, bufV l]] = some (.ret (.str l), [.cells 62 [p, if l = [] then .nils else .sl (bys l)]]) := by
  unfold callOp
  rw [if_pos (by rfl), op_bString]
  simp only
  rw [truncB_same (by simp)]
/-- what the loop over the forms comes to -/
def PQ (s : List UInt8) (l : List UInt8) (i : Nat) (o : Option (List UInt8 × Nat)) (r : Option (Ex × St)) : Prop := match o with
  | some (t, k) => ∃ e p, r = some (.exit 0, ⟨e, [.cells 62 [p, bufV (l ++ t)]]⟩) ∧ getT e 0 = .str s ∧ getT e 4 = .bp 0 0 ∧ getT e 5 = .int .i64 ((i + k : Nat) : Int) ∧ i + k < s.length
  | none => (∃ e bx, r = some (.ret, ⟨e, bx⟩) ∧ getT e 2 = .str [] ∧ getT e 3 = .int .i64 0) ∨ (∃ e bx, r = some (.exit 0, ⟨e, bx⟩) ∧ getT e 0 = .str s ∧ getT e 5 = .int .i64 (s.length : Int))
theorem loop_names_quoted (L : Code) (hL : L = fpart Try.f46 [1,1,1,1,0,0]) (s : List UInt8) (hs : s.length ≤ 900000) : ∀ (m i : Nat) (l : List UInt8) (p : PV) (e : List PV), s.length - i < m → i ≤ s.length → l.length ≤ i → (p = .nilp ∨ p = .bp 0 0) → getT e 0 = .str s → getT e 4 = .bp 0 0 → getT e 5 = .int .i64 i →
    PQ s l i (unqL m (s.drop i)) (evL CC L ⟨e, [.cells 62 [p, bufV l]]⟩) := by
  intro m
  induction m with
  | zero => intro i l p e hm; omega
  | succ m ih =>
    intro i l p e hm hi hli hp h0 h4 h5
    rw [evL_at (fpart Try.f46 [1,1,1,1,0,0,0]) hL]
    have hlen := len_str s
    by_cases hlt : i < s.length
    · have hx : s[i]? = some s[i] := by simp
      have hdr : s.drop i = s[i] :: s.drop (i + 1) := List.drop_eq_getElem_cons hlt
      have hix := ix_str s i _ hx
      have hil : (i : Int) < (s.length : Int) := by omega
      have hun : unqL (m + 1) (s.drop i) = if s[i].toNat = 34 then some ([], 0) else if (nextL (s.drop i)).2 = 0 then none else (unqL m ((s.drop i).drop (nextL (s.drop i)).2)).map fun r => (UInt8.ofNat (nextL (s.drop i)).1 :: r.1, (nextL (s.drop i)).2 + r.2) := by
        rw [hdr]
        rfl
      rw [hun]
      generalize hc : s[i] = c at *
      by_cases c1 : c.toNat = 34
      · have c1' : ((c.toNat : Int) != 34) = false := by simp [c1]
        rw [if_pos c1]
        obtain ⟨ev, eo, so, co, ⟨hev, hco⟩, R⟩ := RULES CC; rw [← hev]
        simp only [fpart, part', Try.f46, Option.getD]
        simp (maxSteps := 5000000) only [SA, SB, SD, R, guardAt, binP, intP, indexAddrP, elemsOf, readCells, lenP, lenAt, resultsP, resultP, oneOr, reduceCtorEq, reduceIte, Nat.reduceEqDiff, Nat.reduceAdd, Nat.zero_add, Nat.reduceMul, Nat.reduceLT, Nat.reduceLeDiff, Int.reduceLT, Int.reduceNeg, Int.reduceLE, appendP, appendAt, letGo, setLoc, locVal, Int.reduceToNat, boxCells, und, TG, SE, h0, h4, h5, hlen, hil, hix, c1']
        exact ⟨_, p, by rw [List.append_nil], by simp (maxSteps := 5000000) only [SA, SB, SD, R, guardAt, binP, intP, indexAddrP, elemsOf, readCells, lenP, lenAt, resultsP, resultP, oneOr, reduceCtorEq, reduceIte, Nat.reduceEqDiff, Nat.reduceAdd, Nat.zero_add, Nat.reduceMul, Nat.reduceLT, Nat.reduceLeDiff, Int.reduceLT, Int.reduceNeg, Int.reduceLE, appendP, appendAt, letGo, setLoc, locVal, Int.reduceToNat, boxCells, und, h0], by simp (maxSteps := 5000000) only [SA, SB, SD, R, guardAt, binP, intP, indexAddrP, elemsOf, readCells, lenP, lenAt, resultsP, resultP, oneOr, reduceCtorEq, reduceIte, Nat.reduceEqDiff, Nat.reduceAdd, Nat.zero_add, Nat.reduceMul, Nat.reduceLT, Nat.reduceLeDiff, Int.reduceLT, Int.reduceNeg, Int.reduceLE, appendP, appendAt, letGo, setLoc, locVal, Int.reduceToNat, boxCells, und, h4], by simp (maxSteps := 5000000) only [SA, SB, SD, R, guardAt, binP, intP, indexAddrP, elemsOf, readCells, lenP, lenAt, resultsP, resultP, oneOr, reduceCtorEq, reduceIte, Nat.reduceEqDiff, Nat.reduceAdd, Nat.zero_add, Nat.reduceMul, Nat.reduceLT, Nat.reduceLeDiff, Int.reduceLT, Int.reduceNeg, Int.reduceLE, appendP, appendAt, letGo, setLoc, locVal, Int.reduceToNat, boxCells, und, h5]; rfl, by omega⟩
      · have c1' : ((c.toNat : Int) != 34) = true := by simp; omega
        rw [if_neg c1]
        have hsl := sl_str_lo s i (by omega) (by omega)
        rw [Int.toNat_natCast] at hsl
        have hnl := nextL_lt (s.drop i)
        rw [List.length_drop] at hnl
        have hnx := op_names_next (s.drop i) (by rw [List.length_drop]; omega)
        rw [List.drop_drop]
        generalize nextL (s.drop i) = nx at *
        obtain ⟨v, n⟩ := nx
        simp only at hnl hnx ⊢
        by_cases c2 : n = 0
        · have c2' : ((n : Int) == 0) = true := by simp [c2]
          rw [if_pos c2]
          rw [c2] at hnx
          have z : (((0 : Nat) : Int) == 0) = true := rfl
          obtain ⟨ev, eo, so, co, ⟨hev, hco⟩, R⟩ := RULES CC; rw [← hev]
          rw [← hco] at hnx
          simp only [fpart, part', Try.f46, Option.getD]
          simp (maxSteps := 5000000) only [SA, SB, SD, R, guardAt, binP, intP, indexAddrP, elemsOf, readCells, lenP, lenAt, resultsP, resultP, oneOr, reduceCtorEq, reduceIte, Nat.reduceEqDiff, Nat.reduceAdd, Nat.zero_add, Nat.reduceMul, Nat.reduceLT, Nat.reduceLeDiff, Int.reduceLT, Int.reduceNeg, Int.reduceLE, appendP, appendAt, letGo, setLoc, locVal, Int.reduceToNat, boxCells, und, TG, SE, h0, h4, h5, hlen, hil, hix, c1', hsl, hnx, z]
          exact .inl ⟨_, _, rfl, by simp (maxSteps := 5000000) only [SA, SB, SD, R, guardAt, binP, intP, indexAddrP, elemsOf, readCells, lenP, lenAt, resultsP, resultP, oneOr, reduceCtorEq, reduceIte, Nat.reduceEqDiff, Nat.reduceAdd, Nat.zero_add, Nat.reduceMul, Nat.reduceLT, Nat.reduceLeDiff, Int.reduceLT, Int.reduceNeg, Int.reduceLE, appendP, appendAt, letGo, setLoc, locVal, Int.reduceToNat, boxCells, und], by simp (maxSteps := 5000000) only [SA, SB, SD, R, guardAt, binP, intP, indexAddrP, elemsOf, readCells, lenP, lenAt, resultsP, resultP, oneOr, reduceCtorEq, reduceIte, Nat.reduceEqDiff, Nat.reduceAdd, Nat.zero_add, Nat.reduceMul, Nat.reduceLT, Nat.reduceLeDiff, Int.reduceLT, Int.reduceNeg, Int.reduceLE, appendP, appendAt, letGo, setLoc, locVal, Int.reduceToNat, boxCells, und]⟩
        · have c2' : ((n : Int) == 0) = false := by simp; omega
          rw [if_neg c2]
          have hwb := call_op_WriteByte l (by omega) p hp v hnl.1
          have hw := wrap_i64 (n := (i : Int) + (n : Int)) ⟨by omega, by omega⟩
          have key := fun e => ih (i + n) (l ++ [UInt8.ofNat v]) (.bp 0 0) e (by omega) (by omega) (by rw [List.length_append, List.length_singleton]; omega) (Or.inr rfl)
          have lift : ∀ r, PQ s (l ++ [UInt8.ofNat v]) (i + n) (unqL m (s.drop (i + n))) r → PQ s l i ((unqL m (s.drop (i + n))).map fun r => (UInt8.ofNat v :: r.1, n + r.2)) r := by
            intro r h
            cases ho : unqL m (s.drop (i + n)) with
            | none => rw [ho] at h; exact h
            | some tk =>
              obtain ⟨t, k⟩ := tk
              rw [ho] at h
              obtain ⟨e, p, h1, h2, h3, h4, h5⟩ := h
              refine ⟨e, p, ?_, h2, h3, ?_, by show i + (n + k) < s.length; omega⟩
              · rw [h1]
                show some (Ex.exit 0, St.mk e [.cells 62 [p, bufV (l ++ [UInt8.ofNat v] ++ t)]]) = some (Ex.exit 0, St.mk e [.cells 62 [p, bufV (l ++ UInt8.ofNat v :: t)]])
                rw [List.append_assoc]
                rfl
              · rw [h4]
                show PV.int .i64 ((i + n + k : Nat) : Int) = PV.int .i64 ((i + (n + k) : Nat) : Int)
                rw [Nat.add_assoc]
          apply lift
          obtain ⟨ev, eo, so, co, ⟨hev, hco⟩, R⟩ := RULES CC; rw [← hev]
          rw [← hco] at hnx hwb
          rw [← hev] at key
          simp only [fpart, part', Try.f46, Option.getD]
          simp (maxSteps := 5000000) only [SA, SB, SD, R, guardAt, binP, intP, indexAddrP, elemsOf, readCells, lenP, lenAt, resultsP, resultP, oneOr, reduceCtorEq, reduceIte, Nat.reduceEqDiff, Nat.reduceAdd, Nat.zero_add, Nat.reduceMul, Nat.reduceLT, Nat.reduceLeDiff, Int.reduceLT, Int.reduceNeg, Int.reduceLE, appendP, appendAt, letGo, setLoc, locVal, Int.reduceToNat, boxCells, und, TG, SE, h0, h4, h5, hlen, hil, hix, c1', hsl, hnx, c2', hwb, hw]
          exact key _ (by simp (maxSteps := 5000000) only [SA, SB, SD, R, guardAt, binP, intP, indexAddrP, elemsOf, readCells, lenP, lenAt, resultsP, resultP, oneOr, reduceCtorEq, reduceIte, Nat.reduceEqDiff, Nat.reduceAdd, Nat.zero_add, Nat.reduceMul, Nat.reduceLT, Nat.reduceLeDiff, Int.reduceLT, Int.reduceNeg, Int.reduceLE, appendP, appendAt, letGo, setLoc, locVal, Int.reduceToNat, boxCells, und, h0]) (by simp (maxSteps := 5000000) only [SA, SB, SD, R, guardAt, binP, intP, indexAddrP, elemsOf, readCells, lenP, lenAt, resultsP, resultP, oneOr, reduceCtorEq, reduceIte, Nat.reduceEqDiff, Nat.reduceAdd, Nat.zero_add, Nat.reduceMul, Nat.reduceLT, Nat.reduceLeDiff, Int.reduceLT, Int.reduceNeg, Int.reduceLE, appendP, appendAt, letGo, setLoc, locVal, Int.reduceToNat, boxCells, und, h4]) (by simp (maxSteps := 5000000) only [SA, SB, SD, R, guardAt, binP, intP, indexAddrP, elemsOf, readCells, lenP, lenAt, resultsP, resultP, oneOr, reduceCtorEq, reduceIte, Nat.reduceEqDiff, Nat.reduceAdd, Nat.zero_add, Nat.reduceMul, Nat.reduceLT, Nat.reduceLeDiff, Int.reduceLT, Int.reduceNeg, Int.reduceLE, appendP, appendAt, letGo, setLoc, locVal, Int.reduceToNat, boxCells, und]; rfl)
    · have hil : ¬ (i : Int) < (s.length : Int) := by omega
      have hdr : s.drop i = [] := List.drop_eq_nil_of_le (by omega)
      rw [hdr]
      have hun : unqL (m + 1) [] = none := rfl
      rw [hun]
      obtain ⟨ev, eo, so, co, ⟨hev, hco⟩, R⟩ := RULES CC; rw [← hev]
      simp only [fpart, part', Try.f46, Option.getD]
      simp (maxSteps := 5000000) only [SA, SB, SD, R, guardAt, binP, intP, indexAddrP, elemsOf, readCells, lenP, lenAt, resultsP, resultP, oneOr, reduceCtorEq, reduceIte, Nat.reduceEqDiff, Nat.reduceAdd, Nat.zero_add, Nat.reduceMul, Nat.reduceLT, Nat.reduceLeDiff, Int.reduceLT, Int.reduceNeg, Int.reduceLE, appendP, appendAt, letGo, setLoc, locVal, Int.reduceToNat, boxCells, und, TG, SE, h0, h4, h5, hlen, hil]
      exact .inr ⟨_, _, rfl, by simp (maxSteps := 5000000) only [SA, SB, SD, R, guardAt, binP, intP, indexAddrP, elemsOf, readCells, lenP, lenAt, resultsP, resultP, oneOr, reduceCtorEq, reduceIte, Nat.reduceEqDiff, Nat.reduceAdd, Nat.zero_add, Nat.reduceMul, Nat.reduceLT, Nat.reduceLeDiff, Int.reduceLT, Int.reduceNeg, Int.reduceLE, appendP, appendAt, letGo, setLoc, locVal, Int.reduceToNat, boxCells, und, h0], by simp (maxSteps := 5000000) only [SA, SB, SD, R, guardAt, binP, intP, indexAddrP, elemsOf, readCells, lenP, lenAt, resultsP, resultP, oneOr, reduceCtorEq, reduceIte, Nat.reduceEqDiff, Nat.reduceAdd, Nat.zero_add, Nat.reduceMul, Nat.reduceLT, Nat.reduceLeDiff, Int.reduceLT, Int.reduceNeg, Int.reduceLE, appendP, appendAt, letGo, setLoc, locVal, Int.reduceToNat, boxCells, und, h5]; rw [show i = s.length from by omega]⟩
end Go.HH
