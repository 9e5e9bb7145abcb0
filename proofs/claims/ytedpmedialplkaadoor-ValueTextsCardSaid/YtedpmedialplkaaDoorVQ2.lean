/-
  Quoted strings: the laws, and the specification's Quote and Unquote.
-/
import Derived.Test.YtedpmedialplkaaDoorVQ
namespace Go.HH
open Go Go.Proofs
set_option maxRecDepth 100000
set_option linter.unusedSimpArgs false
set_option linter.unusedVariables false
/-- the byte at an offset; 0 at the end -/
def atL (s : List UInt8) (i : Nat) : Nat := match s[i]? with
  | some c => c.toNat
  | none => 0
theorem atL_lt (s : List UInt8) (i : Nat) : atL s i < 256 := by
  unfold atL
  split
  · exact UInt8.toNat_lt _
  · omega
theorem atL_get {s : List UInt8} {i : Nat} {c : UInt8} (h : s[i]? = some c) : atL s i = c.toNat := by unfold atL; rw [h]
/-- the quoted form of a text -/
def quoteL (s : List UInt8) : List UInt8 := 34 :: (s.flatMap formL ++ [34])
theorem form_casesF : ∀ n : _root_.Fin 256, ((n.val = 34 ∨ n.val = 92) ∧ formN n.val = [92, UInt8.ofNat n.val]) ∨ (n.val ≠ 34 ∧ n.val ≠ 92 ∧ formN n.val = [UInt8.ofNat n.val]) ∨ (formN n.val = [92, 120, hexd (n.val / 16), hexd (n.val % 16)] ∧ 0 ≤ hexV (hexd (n.val / 16)) ∧ 0 ≤ hexV (hexd (n.val % 16)) ∧ hex2 (hexd (n.val / 16)) (hexd (n.val % 16)) = n.val) := by decide +kernel
theorem form_cases (c : UInt8) : ((c.toNat = 34 ∨ c.toNat = 92) ∧ formL c = [92, c]) ∨ (c.toNat ≠ 34 ∧ c.toNat ≠ 92 ∧ formL c = [c]) ∨ (∃ a b, formL c = [92, 120, a, b] ∧ 0 ≤ hexV a ∧ 0 ≤ hexV b ∧ hex2 a b = c.toNat) := by
  have h := form_casesF ⟨c.toNat, UInt8.toNat_lt c⟩
  simp only [UInt8.ofNat_toNat] at h
  rcases h with h | h | h
  · exact .inl h
  · exact .inr (.inl h)
  · exact .inr (.inr ⟨_, _, h⟩)
theorem nextL_form (c : UInt8) (r : List UInt8) : nextL (formL c ++ r) = (c.toNat, (formL c).length) := by
  have e92 : (92 : UInt8).toNat = 92 := rfl
  have e120 : (120 : UInt8).toNat = 120 := rfl
  rcases form_cases c with ⟨h1, h2⟩ | ⟨h1, h2, h3⟩ | ⟨a, b, h1, h2, h3, h4⟩
  · rw [h2]
    show nextL (92 :: c :: r) = _
    unfold nextL
    simp only [e92]
    rw [if_neg (by decide), if_neg (by decide), if_pos h1]
    rfl
  · rw [h3]
    show nextL (c :: r) = _
    unfold nextL
    simp only
    rw [if_neg h1, if_pos h2, if_pos h3]
    rfl
  · have h5 : formN (hex2 a b) = [92, 120, a, b] := by rw [h4]; exact h1
    rw [h1]
    show nextL (92 :: 120 :: a :: b :: r) = _
    unfold nextL
    simp only [e92, e120]
    rw [if_neg (by decide), if_neg (by decide), if_neg (by decide), if_pos ⟨trivial, h2, h3, h5⟩, h4]
    rfl
theorem nextL_sound (x : List UInt8) (h : (nextL x).2 ≠ 0) : x.take (nextL x).2 = formN (nextL x).1 := by
  match x, h with
  | [], h => exact absurd rfl h
  | c :: r, h =>
    unfold nextL at h ⊢
    simp only at h ⊢
    by_cases c1 : c.toNat = 34
    · rw [if_pos c1] at h; exact absurd rfl h
    · rw [if_neg c1] at h ⊢
      by_cases c2 : c.toNat ≠ 92
      · rw [if_pos c2] at h ⊢
        by_cases c3 : formL c = [c]
        · rw [if_pos c3]; exact c3.symm
        · rw [if_neg c3] at h; exact absurd rfl h
      · rw [if_neg c2] at h ⊢
        have e92 : c = 92 := by rw [← UInt8.toNat_inj]; show _ = 92; omega
        match r, h with
        | [], h => exact absurd rfl h
        | d :: r, h =>
          simp only at h ⊢
          by_cases c3 : d.toNat = 34 ∨ d.toNat = 92
          · rw [if_pos c3]
            show [c, d] = formN d.toNat
            unfold formN
            rw [if_pos c3, UInt8.ofNat_toNat, e92]
          · rw [if_neg c3] at h ⊢
            match r, h with
            | [], h => exact absurd rfl h
            | [_], h => exact absurd rfl h
            | x :: y :: r, h =>
              simp only at h ⊢
              by_cases c4 : d.toNat = 120 ∧ 0 ≤ hexV x ∧ 0 ≤ hexV y ∧ formN (hex2 x y) = [c, d, x, y]
              · rw [if_pos c4]; exact c4.2.2.2.symm
              · rw [if_neg c4] at h; exact absurd rfl h
theorem formL_pos (c : UInt8) : 0 < (formL c).length := by
  rcases form_cases c with ⟨h1, h2⟩ | ⟨h1, h2, h3⟩ | ⟨a, b, h1, h2, h3, h4⟩
  · rw [h2]; simp
  · rw [h3]; simp
  · rw [h1]; simp
theorem flat_len (t : List UInt8) : t.length ≤ (t.flatMap formL).length := by
  induction t with
  | nil => exact Nat.le_refl _
  | cons c t ih => have := formL_pos c; rw [List.flatMap_cons, List.length_append, List.length_cons]; omega
theorem unqL_step (m : Nat) (s : List UInt8) (h : (nextL s).2 ≠ 0) : unqL (m + 1) s = (unqL m (s.drop (nextL s).2)).map fun r => (UInt8.ofNat (nextL s).1 :: r.1, (nextL s).2 + r.2) := by
  match s, h with
  | [], h => exact absurd rfl h
  | c :: r, h =>
    have hun : unqL (m + 1) (c :: r) = if c.toNat = 34 then some ([], 0) else if (nextL (c :: r)).2 = 0 then none else (unqL m ((c :: r).drop (nextL (c :: r)).2)).map fun x => (UInt8.ofNat (nextL (c :: r)).1 :: x.1, (nextL (c :: r)).2 + x.2) := rfl
    have c1 : c.toNat ≠ 34 := fun c1 => by
      have e : nextL (c :: r) = (0, 0) := by unfold nextL; simp only; rw [if_pos c1]
      rw [e] at h
      exact h rfl
    rw [hun, if_neg c1, if_neg h]
theorem unqL_sound : ∀ (m : Nat) (s t : List UInt8) (k : Nat), unqL m s = some (t, k) → ∃ r, s = t.flatMap formL ++ 34 :: r ∧ k = (t.flatMap formL).length
  | 0, _, _, _, h => by cases h
  | m + 1, [], _, _, h => by cases h
  | m + 1, c :: r, t, k, h => by
    have hun : unqL (m + 1) (c :: r) = if c.toNat = 34 then some ([], 0) else if (nextL (c :: r)).2 = 0 then none else (unqL m ((c :: r).drop (nextL (c :: r)).2)).map fun x => (UInt8.ofNat (nextL (c :: r)).1 :: x.1, (nextL (c :: r)).2 + x.2) := rfl
    rw [hun] at h
    split at h
    · rename_i c1
      have e34 : c = 34 := by rw [← UInt8.toNat_inj]; exact c1
      injection h with h
      injection h with h1 h2
      subst h1 h2 e34
      exact ⟨r, rfl, rfl⟩
    · split at h
      · cases h
      · rename_i c1 c2
        obtain ⟨⟨t', k'⟩, h1, h2⟩ := Option.map_eq_some_iff.1 h
        injection h2 with h2 h3
        subst h2 h3
        obtain ⟨r', h4, h5⟩ := unqL_sound m _ _ _ h1
        have h6 := nextL_sound _ c2
        have h7 := nextL_lt (c :: r)
        have hv : formL (UInt8.ofNat (nextL (c :: r)).1) = formN (nextL (c :: r)).1 := by unfold formL; rw [UInt8.toNat_ofNat', Nat.mod_eq_of_lt h7.1]
        refine ⟨r', ?_, ?_⟩
        · rw [List.flatMap_cons, hv, ← h6, List.append_assoc, ← h4, List.take_append_drop]
        · rw [List.flatMap_cons, List.length_append, hv, ← h6, List.length_take, ← h5]; omega
theorem unqL_complete : ∀ (t : List UInt8) (m : Nat) (r : List UInt8), t.length < m → unqL m (t.flatMap formL ++ 34 :: r) = some (t, (t.flatMap formL).length)
  | _, 0, _, h => by omega
  | [], m + 1, r, _ => rfl
  | c :: t, m + 1, r, h => by
    have hn := nextL_form c (t.flatMap formL ++ 34 :: r)
    have hp := formL_pos c
    rw [List.flatMap_cons, List.append_assoc, unqL_step m _ (by rw [hn]; simp only; omega), hn]
    simp only
    rw [List.drop_left, unqL_complete t m r (by simp only [List.length_cons] at h; omega), UInt8.ofNat_toNat, List.length_append]
    rfl
theorem quoteL_length (t : List UInt8) : (quoteL t).length = (t.flatMap formL).length + 2 := by unfold quoteL; simp
theorem quotedL_quote (t r : List UInt8) : quotedL (quoteL t ++ r) = (t, (quoteL t).length) := by
  have e : quoteL t ++ r = 34 :: (t.flatMap formL ++ 34 :: r) := by unfold quoteL; simp
  have hl := flat_len t
  unfold quotedL
  rw [e, if_pos (show (34 :: (t.flatMap formL ++ 34 :: r) : List UInt8).head? = some 34 from rfl)]
  show (match unqL _ (t.flatMap formL ++ 34 :: r) with
    | some (t, k) => (t, k + 2)
    | none => ([], 0)) = _
  rw [unqL_complete t _ r (by simp only [List.length_cons, List.length_append]; omega), quoteL_length]
theorem quotedL_sound (s : List UInt8) (h : (quotedL s).2 ≠ 0) : ∃ t r, s = quoteL t ++ r ∧ quotedL s = (t, (quoteL t).length) := by
  have h' := h
  unfold quotedL at h'
  split at h'
  · rename_i hh
    match s, hh with
    | c :: s', hh =>
      have e : c = 34 := Option.some.inj hh
      subst e
      split at h'
      · rename_i t k hu
        obtain ⟨r, h1, h2⟩ := unqL_sound _ _ _ _ hu
        have e : (34 : UInt8) :: s' = quoteL t ++ r := by
          have : s' = t.flatMap formL ++ 34 :: r := h1
          rw [this]
          unfold quoteL
          simp
        exact ⟨t, r, e, by rw [e, quotedL_quote]⟩
      · exact absurd rfl h'
  · exact absurd rfl h'
theorem unq_quote (t : List UInt8) : unq (quoteL t) = if t.length > 60 then ([], 3) else (t, 0) := by
  have h := quotedL_quote t []
  rw [List.append_nil] at h
  have h2 := quoteL_length t
  unfold unq
  rw [h]
  simp only
  rw [if_neg (by omega)]
theorem unq_else (s : List UInt8) (h : ∀ t, s ≠ quoteL t) : unq s = ([], 4) := by
  unfold unq
  split
  · rfl
  · rename_i hc
    exfalso
    obtain ⟨t, r, h1, h2⟩ := quotedL_sound s (fun e => hc (.inl e))
    have h3 : (quotedL s).2 = s.length := Decidable.byContradiction fun e => hc (.inr e)
    rw [h2] at h3
    simp only at h3
    rw [h1, List.length_append] at h3
    have : r = [] := List.length_eq_zero_iff.1 (by omega)
    subst this
    rw [List.append_nil] at h1
    exact h t h1
theorem quoteL_inj {t u : List UInt8} (h : quoteL t = quoteL u) : t = u := by
  have h1 := quotedL_quote t []
  have h2 := quotedL_quote u []
  rw [h, h2] at h1
  injection h1 with h1
  exact h1.symm
/-- a loose reading of a text in quotes, from an offset on: the bytes so far, and where it ends -/
def looseL : Nat → List UInt8 → Nat → List UInt8 → Option (List UInt8 × Nat)
  | 0, _, _, _ => none
  | m + 1, s, i, b => if i < s.length ∧ atL s i ≠ 34 then
      (if atL s i ≠ 92 then looseL m s (i + 1) (b ++ [UInt8.ofNat (atL s i)])
       else if i + 1 < s.length ∧ (atL s (i + 1) = 34 ∨ atL s (i + 1) = 92) then looseL m s (i + 2) (b ++ [UInt8.ofNat (atL s (i + 1))])
       else if i + 3 < s.length ∧ atL s (i + 1) = 120 ∧ 0 ≤ hexN (atL s (i + 2)) ∧ 0 ≤ hexN (atL s (i + 3)) then looseL m s (i + 4) (b ++ [UInt8.ofNat (hexN (atL s (i + 2)) * 16 + hexN (atL s (i + 3))).toNat])
       else none)
    else some (b, i)
theorem looseL_succ (m : Nat) (s : List UInt8) (i : Nat) (b : List UInt8) : looseL (m + 1) s i b = if i < s.length ∧ atL s i ≠ 34 then
      (if atL s i ≠ 92 then looseL m s (i + 1) (b ++ [UInt8.ofNat (atL s i)])
       else if i + 1 < s.length ∧ (atL s (i + 1) = 34 ∨ atL s (i + 1) = 92) then looseL m s (i + 2) (b ++ [UInt8.ofNat (atL s (i + 1))])
       else if i + 3 < s.length ∧ atL s (i + 1) = 120 ∧ 0 ≤ hexN (atL s (i + 2)) ∧ 0 ≤ hexN (atL s (i + 3)) then looseL m s (i + 4) (b ++ [UInt8.ofNat (hexN (atL s (i + 2)) * 16 + hexN (atL s (i + 3))).toNat])
       else none)
    else some (b, i) := rfl
theorem atL_drop (s : List UInt8) (i j : Nat) : atL s (i + j) = atL (s.drop i) j := by unfold atL; rw [List.getElem?_drop]
theorem loose_form (s : List UInt8) (m i : Nat) (b : List UInt8) (c : UInt8) (r : List UInt8) (h : s.drop i = formL c ++ r) : looseL (m + 1) s i b = looseL m s (i + (formL c).length) (b ++ [c]) := by
  have hlen : (s.drop i).length = (formL c ++ r).length := by rw [h]
  rw [List.length_drop, List.length_append] at hlen
  have a0 := atL_drop s i 0
  have a1 := atL_drop s i 1
  have a2 := atL_drop s i 2
  have a3 := atL_drop s i 3
  rw [h] at a0 a1 a2 a3
  rw [Nat.add_zero] at a0
  rw [looseL_succ]
  rcases form_cases c with ⟨h1, h2⟩ | ⟨h1, h2, h3⟩ | ⟨x, y, h1, h2, h3, h4⟩
  · rw [h2] at a0 a1 hlen ⊢
    have a0 : atL s i = 92 := a0
    have a1 : atL s (i + 1) = c.toNat := a1
    have hlen : s.length - i = 2 + r.length := hlen
    rw [a0, a1, if_pos ⟨by omega, by decide⟩, if_neg (by decide), if_pos ⟨by omega, h1⟩, UInt8.ofNat_toNat]
    rfl
  · rw [h3] at a0 hlen ⊢
    have a0 : atL s i = c.toNat := a0
    have hlen : s.length - i = 1 + r.length := hlen
    rw [a0, if_pos ⟨by omega, h1⟩, if_pos h2, UInt8.ofNat_toNat]
    rfl
  · rw [h1] at a0 a1 a2 a3 hlen ⊢
    have a0 : atL s i = 92 := a0
    have a1 : atL s (i + 1) = 120 := a1
    have a2 : atL s (i + 2) = x.toNat := a2
    have a3 : atL s (i + 3) = y.toNat := a3
    have hlen : s.length - i = 4 + r.length := hlen
    have hx : hexN x.toNat = hexV x := rfl
    have hy : hexN y.toNat = hexV y := rfl
    have hz : (hexV x * 16 + hexV y).toNat = hex2 x y := rfl
    rw [a0, a1, a2, a3, hx, hy, hz, h4, if_pos ⟨by omega, by decide⟩, if_neg (by decide), if_neg (by omega), if_pos ⟨by omega, rfl, h2, h3⟩, UInt8.ofNat_toNat]
    rfl
theorem loose_quote (s : List UInt8) : ∀ (t : List UInt8) (m i : Nat) (b r : List UInt8), t.length < m → s.drop i = t.flatMap formL ++ 34 :: r → looseL m s i b = some (b ++ t, i + (t.flatMap formL).length)
  | _, 0, _, _, _, h, _ => by omega
  | [], m + 1, i, b, r, _, h => by
    have a0 := atL_drop s i 0
    rw [h, Nat.add_zero] at a0
    have a0 : atL s i = 34 := a0
    rw [looseL_succ, a0, if_neg (fun h => h.2 rfl), List.append_nil]
    rfl
  | c :: t, m + 1, i, b, r, hm, h => by
    rw [List.flatMap_cons, List.append_assoc] at h
    rw [loose_form s m i b c _ h, loose_quote s t m (i + (formL c).length) (b ++ [c]) r (by simp only [List.length_cons] at hm; omega) (by rw [← List.drop_drop, h, List.drop_left]), List.flatMap_cons, List.length_append, List.append_assoc, Nat.add_assoc]
    rfl
/-- what the specification's 'quoted' says of a text from its beginning -/
def quotedR (s : List UInt8) : Option (List UInt8 × Nat) := if s.head? = some 34 then (match looseL (s.length + 1) s 1 [] with
    | some (b, i) => if i ≥ s.length ∨ quoteL b ≠ s.take (i + 1) then none else some (b, i + 1)
    | none => none) else none
def unqR (s : List UInt8) : List UInt8 × Int := match quotedR s with
  | none => ([], 4)
  | some (t, k) => if k ≠ s.length then ([], 4) else if t.length > 60 then ([], 3) else (t, 0)
theorem quotedR_quote (t r : List UInt8) : quotedR (quoteL t ++ r) = some (t, (quoteL t).length) := by
  have e : quoteL t ++ r = 34 :: (t.flatMap formL ++ 34 :: r) := by unfold quoteL; simp
  have hl := flat_len t
  have hq := quoteL_length t
  unfold quotedR
  rw [if_pos (by rw [e]; rfl), loose_quote (quoteL t ++ r) t _ 1 [] r (by rw [List.length_append]; omega) (by rw [e]; rfl), List.nil_append]
  simp only
  rw [show 1 + (t.flatMap formL).length + 1 = (quoteL t).length from by omega, List.take_left, if_neg (fun h => h.elim (fun h => by rw [List.length_append] at h; omega) (fun h => h rfl))]
theorem quotedR_sound (s t : List UInt8) (k : Nat) (h : quotedR s = some (t, k)) : ∃ r, s = quoteL t ++ r ∧ k = (quoteL t).length := by
  unfold quotedR at h
  split at h
  · split at h
    · rename_i b i hb
      split at h
      · cases h
      · rename_i hc
        injection h with h
        injection h with h1 h2
        subst h1 h2
        have h1 : i < s.length := by omega
        have h2 : quoteL b = s.take (i + 1) := Decidable.byContradiction fun e => hc (.inr e)
        refine ⟨s.drop (i + 1), by rw [h2, List.take_append_drop], by rw [h2, List.length_take]; omega⟩
    · cases h
  · cases h
theorem unqR_eq (s : List UInt8) : unqR s = unq s := by
  by_cases h : ∃ t, s = quoteL t
  · obtain ⟨t, rfl⟩ := h
    have h1 := quotedR_quote t []
    rw [List.append_nil] at h1
    unfold unqR
    rw [h1, unq_quote]
    simp
  · rw [unq_else s (fun t e => h ⟨t, e⟩)]
    unfold unqR
    split
    · rfl
    · rename_i t k hk
      obtain ⟨r, h1, h2⟩ := quotedR_sound s t k hk
      rw [if_pos]
      intro e
      rw [h1, List.length_append] at e
      have : r = [] := List.length_eq_zero_iff.1 (by omega)
      subst this
      rw [List.append_nil] at h1
      exact h ⟨t, h1⟩
theorem ok_R04_Quote : fnOK CC Tryd.f61 (Tryd.f61.body.getD .skip) = true := by kernel_rfl
theorem fat_R04_Quote : CC.P.funcs[61]? = some Tryd.f61 := by kernel_rfl
theorem ix_at (s : List UInt8) (i : Nat) (h : i < s.length) : indexV CC 9 (.str s) (.int .i64 (i : Int)) = some (.int .u8 ((atL s i : Nat) : Int)) := by
  have hx : s[i]? = some s[i] := by simp
  rw [atL_get hx]
  exact ix_str s i _ hx
theorem bs_one (n : Nat) (h : n < 256) : buildSliceP CC 62 1 [(0, .int .u8 (n : Int))] = some (.osl 5 (bys [UInt8.ofNat n])) := by
  rw [bs_u8]
  have := bys_snoc [] n h
  show some (PV.osl 5 ([] ++ [.int .u8 (n : Int)])) = _
  exact congrArg (fun x => some (PV.osl 5 x)) this
theorem bs_two (a b : Int) : buildSliceP CC 62 2 [(0, .int .u8 a), (1, .int .u8 b)] = some (.osl 5 [.int .u8 a, .int .u8 b]) := by
  have hz : tZero CC 5 = some (.int .u8 0) := by kernel_rfl
  have hi : ∃ i, CC.P.info? 5 = some i ∧ i.size = 1 := ⟨(Tryd.prog.info? 5).getD default, by kernel_rfl, by kernel_rfl⟩
  obtain ⟨i, hi, hs⟩ := hi
  unfold buildSliceP
  simp only [TG, hz, hi, hs]
  rfl
theorem bs_four (a b c d : Int) : buildSliceP CC 62 4 [(0, .int .u8 a), (1, .int .u8 b), (2, .int .u8 c), (3, .int .u8 d)] = some (.osl 5 [.int .u8 a, .int .u8 b, .int .u8 c, .int .u8 d]) := by
  have hz : tZero CC 5 = some (.int .u8 0) := by kernel_rfl
  have hi : ∃ i, CC.P.info? 5 = some i ∧ i.size = 1 := ⟨(Tryd.prog.info? 5).getD default, by kernel_rfl, by kernel_rfl⟩
  obtain ⟨i, hi, hs⟩ := hi
  unfold buildSliceP
  simp only [TG, hz, hi, hs]
  rfl
theorem bys_append (a b : List UInt8) : bys (a ++ b) = bys a ++ bys b := by simp [bys]
theorem conv_b1 (l : List UInt8) : convP CC 62 9 (.osl 5 (bys l)) = some (.str l) := by
  have h := bytesOf_bys l
  unfold convP
  simp only [TG, elemsOf, h]
  rfl
theorem conv_b2 (l : List UInt8) : convP CC 62 9 (.sl (bys l)) = some (.str l) := by
  have h := bytesOf_bys l
  unfold convP
  simp only [TG, elemsOf, h]
  rfl
theorem formL_le (c : UInt8) : (formL c).length ≤ 4 := by
  rcases form_cases c with ⟨h1, h2⟩ | ⟨h1, h2, h3⟩ | ⟨a, b, h1, h2, h3, h4⟩
  · rw [h2]; simp
  · rw [h3]; simp
  · rw [h1]; simp
theorem loop_R04_Quote (L : Code) (hL : L = fpart Tryd.f61 [1,1,0,1,0]) (s : List UInt8) (hs : s.length ≤ 200000) : ∀ (m i : Nat) (acc : List UInt8) (e : List PV), i + m = s.length → acc.length ≤ 4 * i + 1 → getT e 0 = .str s → getT e 3 = .osl 5 (bys acc) → getT e 4 = .int .i64 i →
    ∃ e', evL CC L ⟨e, []⟩ = some (.exit 0, ⟨e', []⟩) ∧ getT e' 3 = .osl 5 (bys (acc ++ (s.drop i).flatMap formL)) := by
  intro m
  induction m with
  | zero =>
    intro i acc e hm ha h0 h3 h4
    rw [evL_at (fpart Tryd.f61 [1,1,0,1,0,0]) hL]
    have hi : ¬ (i : Int) < (s.length : Int) := by omega
    have hlen := len_str s
    rw [List.drop_eq_nil_of_le (by omega), List.flatMap_nil, List.append_nil]
    obtain ⟨ev, eo, so, co, ⟨hev, hco⟩, R⟩ := RULES CC; rw [← hev]
    simp only [fpart, part', Tryd.f61, Option.getD]
    simp (maxSteps := 5000000) only [SA, SB, SD, R, guardAt, binP, intP, indexAddrP, elemsOf, readCells, lenP, lenAt, resultsP, resultP, oneOr, reduceCtorEq, reduceIte, Nat.reduceEqDiff, Nat.reduceAdd, Nat.zero_add, Nat.reduceMul, Nat.reduceLT, Nat.reduceLeDiff, Int.reduceLT, Int.reduceNeg, Int.reduceLE, appendP, appendAt, letGo, setLoc, locVal, Int.reduceToNat, boxCells, und, TG, SE, h0, h3, h4, hlen, hi]
    exact ⟨_, rfl, by simp (maxSteps := 5000000) only [SA, SB, SD, R, guardAt, binP, intP, indexAddrP, elemsOf, readCells, lenP, lenAt, resultsP, resultP, oneOr, reduceCtorEq, reduceIte, Nat.reduceEqDiff, Nat.reduceAdd, Nat.zero_add, Nat.reduceMul, Nat.reduceLT, Nat.reduceLeDiff, Int.reduceLT, Int.reduceNeg, Int.reduceLE, appendP, appendAt, letGo, setLoc, locVal, Int.reduceToNat, boxCells, und, h3]⟩
  | succ m ih =>
    intro i acc e hm ha h0 h3 h4
    rw [evL_at (fpart Tryd.f61 [1,1,0,1,0,0]) hL]
    have hi : (i : Int) < (s.length : Int) := by omega
    have hil : i < s.length := by omega
    have hlen := len_str s
    have hx : s[i]? = some s[i] := by simp
    have hix := ix_str s i _ hx
    have hdr : s.drop i = s[i] :: s.drop (i + 1) := List.drop_eq_getElem_cons hil
    rw [hdr, List.flatMap_cons, ← List.append_assoc]
    generalize s[i] = c at *
    have hcl := UInt8.toNat_lt c
    have hfl := formL_le c
    have hbl : (bys acc).length = acc.length := bys_length acc
    have hfb : (bys (formL c)).length = (formL c).length := bys_length _
    have hok := bys_all (formL c)
    have hc : (bys acc).length + (bys (formL c)).length ≤ 1000000 := by omega
    have hw := wrap_i64 (n := (i : Int) + 1) ⟨by omega, by omega⟩
    have cast1 : ((i + 1 : Nat) : Int) = (i : Int) + 1 := by omega
    have key := fun e => ih (i + 1) (acc ++ formL c) e (by omega) (by rw [List.length_append]; omega)
    rw [cast1, bys_append acc] at key
    have e92 : (92 : UInt8).toNat = 92 := rfl
    have hfm : formL c = if c.toNat = 34 ∨ c.toNat = 92 then [92, c] else if c.toNat < 32 ∨ 126 < c.toNat then [92, 120, hexd (c.toNat / 16), hexd (c.toNat % 16)] else [c] := by
      unfold formL formN
      rw [UInt8.ofNat_toNat]
    by_cases c1 : c.toNat = 34
    · have c1' : ((c.toNat : Int) == 34) = true := by simp [c1]
      have hbs : buildSliceP CC 62 2 [(0, .int .u8 92), (1, .int .u8 (c.toNat : Int))] = some (.osl 5 (bys (formL c))) := by
        rw [bs_two, hfm, if_pos (Or.inl c1)]; rfl
      generalize bys (formL c) = ys at *
      generalize bys acc = xs at *
      obtain ⟨ev, eo, so, co, ⟨hev, hco⟩, R⟩ := RULES CC; rw [← hev]
      rw [← hev] at key
      simp only [fpart, part', Tryd.f61, Option.getD]
      simp (maxSteps := 5000000) only [SA, SB, SD, R, guardAt, binP, intP, indexAddrP, elemsOf, readCells, lenP, lenAt, resultsP, resultP, oneOr, reduceCtorEq, reduceIte, Nat.reduceEqDiff, Nat.reduceAdd, Nat.zero_add, Nat.reduceMul, Nat.reduceLT, Nat.reduceLeDiff, Int.reduceLT, Int.reduceNeg, Int.reduceLE, appendP, appendAt, letGo, setLoc, locVal, Int.reduceToNat, boxCells, und, TG, SE, h0, h3, h4, hlen, hi, hix, c1', hbs, ap_u8, hok, hc, hw]
      exact key _ (by simp (maxSteps := 5000000) only [SA, SB, SD, R, guardAt, binP, intP, indexAddrP, elemsOf, readCells, lenP, lenAt, resultsP, resultP, oneOr, reduceCtorEq, reduceIte, Nat.reduceEqDiff, Nat.reduceAdd, Nat.zero_add, Nat.reduceMul, Nat.reduceLT, Nat.reduceLeDiff, Int.reduceLT, Int.reduceNeg, Int.reduceLE, appendP, appendAt, letGo, setLoc, locVal, Int.reduceToNat, boxCells, und, h0]) (by simp (maxSteps := 5000000) only [SA, SB, SD, R, guardAt, binP, intP, indexAddrP, elemsOf, readCells, lenP, lenAt, resultsP, resultP, oneOr, reduceCtorEq, reduceIte, Nat.reduceEqDiff, Nat.reduceAdd, Nat.zero_add, Nat.reduceMul, Nat.reduceLT, Nat.reduceLeDiff, Int.reduceLT, Int.reduceNeg, Int.reduceLE, appendP, appendAt, letGo, setLoc, locVal, Int.reduceToNat, boxCells, und]) (by simp (maxSteps := 5000000) only [SA, SB, SD, R, guardAt, binP, intP, indexAddrP, elemsOf, readCells, lenP, lenAt, resultsP, resultP, oneOr, reduceCtorEq, reduceIte, Nat.reduceEqDiff, Nat.reduceAdd, Nat.zero_add, Nat.reduceMul, Nat.reduceLT, Nat.reduceLeDiff, Int.reduceLT, Int.reduceNeg, Int.reduceLE, appendP, appendAt, letGo, setLoc, locVal, Int.reduceToNat, boxCells, und])
    · have c1' : ((c.toNat : Int) == 34) = false := by simp; omega
      by_cases c2 : c.toNat = 92
      · have c2' : ((c.toNat : Int) == 92) = true := by simp [c2]
        have hbs : buildSliceP CC 62 2 [(0, .int .u8 92), (1, .int .u8 (c.toNat : Int))] = some (.osl 5 (bys (formL c))) := by
          rw [bs_two, hfm, if_pos (Or.inr c2)]; rfl
        generalize bys (formL c) = ys at *
        generalize bys acc = xs at *
        obtain ⟨ev, eo, so, co, ⟨hev, hco⟩, R⟩ := RULES CC; rw [← hev]
        rw [← hev] at key
        simp only [fpart, part', Tryd.f61, Option.getD]
        simp (maxSteps := 5000000) only [SA, SB, SD, R, guardAt, binP, intP, indexAddrP, elemsOf, readCells, lenP, lenAt, resultsP, resultP, oneOr, reduceCtorEq, reduceIte, Nat.reduceEqDiff, Nat.reduceAdd, Nat.zero_add, Nat.reduceMul, Nat.reduceLT, Nat.reduceLeDiff, Int.reduceLT, Int.reduceNeg, Int.reduceLE, appendP, appendAt, letGo, setLoc, locVal, Int.reduceToNat, boxCells, und, TG, SE, h0, h3, h4, hlen, hi, hix, c1', c2', hbs, ap_u8, hok, hc, hw]
        exact key _ (by simp (maxSteps := 5000000) only [SA, SB, SD, R, guardAt, binP, intP, indexAddrP, elemsOf, readCells, lenP, lenAt, resultsP, resultP, oneOr, reduceCtorEq, reduceIte, Nat.reduceEqDiff, Nat.reduceAdd, Nat.zero_add, Nat.reduceMul, Nat.reduceLT, Nat.reduceLeDiff, Int.reduceLT, Int.reduceNeg, Int.reduceLE, appendP, appendAt, letGo, setLoc, locVal, Int.reduceToNat, boxCells, und, h0]) (by simp (maxSteps := 5000000) only [SA, SB, SD, R, guardAt, binP, intP, indexAddrP, elemsOf, readCells, lenP, lenAt, resultsP, resultP, oneOr, reduceCtorEq, reduceIte, Nat.reduceEqDiff, Nat.reduceAdd, Nat.zero_add, Nat.reduceMul, Nat.reduceLT, Nat.reduceLeDiff, Int.reduceLT, Int.reduceNeg, Int.reduceLE, appendP, appendAt, letGo, setLoc, locVal, Int.reduceToNat, boxCells, und]) (by simp (maxSteps := 5000000) only [SA, SB, SD, R, guardAt, binP, intP, indexAddrP, elemsOf, readCells, lenP, lenAt, resultsP, resultP, oneOr, reduceCtorEq, reduceIte, Nat.reduceEqDiff, Nat.reduceAdd, Nat.zero_add, Nat.reduceMul, Nat.reduceLT, Nat.reduceLeDiff, Int.reduceLT, Int.reduceNeg, Int.reduceLE, appendP, appendAt, letGo, setLoc, locVal, Int.reduceToNat, boxCells, und])
      · have c2' : ((c.toNat : Int) == 92) = false := by simp; omega
        rw [if_neg (by omega)] at hfm
        have hq : IntKind.wrap .u8 (Int.tdiv (c.toNat : Int) 16) = ((UInt8.ofNat (c.toNat / 16)).toNat : Int) := by
          rw [Int.tdiv_eq_ediv_of_nonneg (by omega), UInt8.toNat_ofNat']
          simp [IntKind.wrap, IntKind.bits, IntKind.signed]
        have hd1 := op_R04_digit (UInt8.ofNat (c.toNat / 16))
        have hd2 := op_R04_digit c
        have hbs4 : c.toNat < 32 ∨ 126 < c.toNat → buildSliceP CC 62 4 [(0, .int .u8 92), (1, .int .u8 120), (2, .int .u8 (digN (UInt8.ofNat (c.toNat / 16)).toNat)), (3, .int .u8 (digN c.toNat))] = some (.osl 5 (bys (formL c))) := fun h => by
          rw [bs_four, hfm, if_pos h, UInt8.toNat_ofNat', Nat.mod_eq_of_lt (by omega)]
          unfold digN
          rw [Nat.mod_eq_of_lt (by omega : c.toNat / 16 < 16)]
          rfl
        have hbs1 : ¬ (c.toNat < 32 ∨ 126 < c.toNat) → buildSliceP CC 62 1 [(0, .int .u8 (c.toNat : Int))] = some (.osl 5 (bys (formL c))) := fun h => by
          rw [hfm, if_neg h, bs_one _ hcl, UInt8.ofNat_toNat]
        have z16 : ((16 : Int) = 0) = False := by simp
        generalize bys (formL c) = ys at *
        generalize bys acc = xs at *
        by_cases c3 : c.toNat < 32
        · have c3' : ((c.toNat : Int) < 32) := by omega
          have hbs := hbs4 (Or.inl c3)
          obtain ⟨ev, eo, so, co, ⟨hev, hco⟩, R⟩ := RULES CC; rw [← hev]
          rw [← hev] at key
          rw [← hco] at hd1 hd2
          simp only [fpart, part', Tryd.f61, Option.getD]
          simp (maxSteps := 5000000) only [SA, SB, SD, R, guardAt, binP, intP, indexAddrP, elemsOf, readCells, lenP, lenAt, resultsP, resultP, oneOr, reduceCtorEq, reduceIte, Nat.reduceEqDiff, Nat.reduceAdd, Nat.zero_add, Nat.reduceMul, Nat.reduceLT, Nat.reduceLeDiff, Int.reduceLT, Int.reduceNeg, Int.reduceLE, appendP, appendAt, letGo, setLoc, locVal, Int.reduceToNat, boxCells, und, TG, SE, h0, h3, h4, hlen, hi, hix, c1', c2', c3', z16, hq, hd1, hd2, hbs, ap_u8, hok, hc, hw]
          exact key _ (by simp (maxSteps := 5000000) only [SA, SB, SD, R, guardAt, binP, intP, indexAddrP, elemsOf, readCells, lenP, lenAt, resultsP, resultP, oneOr, reduceCtorEq, reduceIte, Nat.reduceEqDiff, Nat.reduceAdd, Nat.zero_add, Nat.reduceMul, Nat.reduceLT, Nat.reduceLeDiff, Int.reduceLT, Int.reduceNeg, Int.reduceLE, appendP, appendAt, letGo, setLoc, locVal, Int.reduceToNat, boxCells, und, h0]) (by simp (maxSteps := 5000000) only [SA, SB, SD, R, guardAt, binP, intP, indexAddrP, elemsOf, readCells, lenP, lenAt, resultsP, resultP, oneOr, reduceCtorEq, reduceIte, Nat.reduceEqDiff, Nat.reduceAdd, Nat.zero_add, Nat.reduceMul, Nat.reduceLT, Nat.reduceLeDiff, Int.reduceLT, Int.reduceNeg, Int.reduceLE, appendP, appendAt, letGo, setLoc, locVal, Int.reduceToNat, boxCells, und]) (by simp (maxSteps := 5000000) only [SA, SB, SD, R, guardAt, binP, intP, indexAddrP, elemsOf, readCells, lenP, lenAt, resultsP, resultP, oneOr, reduceCtorEq, reduceIte, Nat.reduceEqDiff, Nat.reduceAdd, Nat.zero_add, Nat.reduceMul, Nat.reduceLT, Nat.reduceLeDiff, Int.reduceLT, Int.reduceNeg, Int.reduceLE, appendP, appendAt, letGo, setLoc, locVal, Int.reduceToNat, boxCells, und])
        · have c3' : ¬ ((c.toNat : Int) < 32) := by omega
          by_cases c4 : 126 < c.toNat
          · have c4' : ((c.toNat : Int) > 126) := by omega
            have hbs := hbs4 (Or.inr c4)
            obtain ⟨ev, eo, so, co, ⟨hev, hco⟩, R⟩ := RULES CC; rw [← hev]
            rw [← hev] at key
            rw [← hco] at hd1 hd2
            simp only [fpart, part', Tryd.f61, Option.getD]
            simp (maxSteps := 5000000) only [SA, SB, SD, R, guardAt, binP, intP, indexAddrP, elemsOf, readCells, lenP, lenAt, resultsP, resultP, oneOr, reduceCtorEq, reduceIte, Nat.reduceEqDiff, Nat.reduceAdd, Nat.zero_add, Nat.reduceMul, Nat.reduceLT, Nat.reduceLeDiff, Int.reduceLT, Int.reduceNeg, Int.reduceLE, appendP, appendAt, letGo, setLoc, locVal, Int.reduceToNat, boxCells, und, TG, SE, h0, h3, h4, hlen, hi, hix, c1', c2', c3', c4', z16, hq, hd1, hd2, hbs, ap_u8, hok, hc, hw]
            exact key _ (by simp (maxSteps := 5000000) only [SA, SB, SD, R, guardAt, binP, intP, indexAddrP, elemsOf, readCells, lenP, lenAt, resultsP, resultP, oneOr, reduceCtorEq, reduceIte, Nat.reduceEqDiff, Nat.reduceAdd, Nat.zero_add, Nat.reduceMul, Nat.reduceLT, Nat.reduceLeDiff, Int.reduceLT, Int.reduceNeg, Int.reduceLE, appendP, appendAt, letGo, setLoc, locVal, Int.reduceToNat, boxCells, und, h0]) (by simp (maxSteps := 5000000) only [SA, SB, SD, R, guardAt, binP, intP, indexAddrP, elemsOf, readCells, lenP, lenAt, resultsP, resultP, oneOr, reduceCtorEq, reduceIte, Nat.reduceEqDiff, Nat.reduceAdd, Nat.zero_add, Nat.reduceMul, Nat.reduceLT, Nat.reduceLeDiff, Int.reduceLT, Int.reduceNeg, Int.reduceLE, appendP, appendAt, letGo, setLoc, locVal, Int.reduceToNat, boxCells, und]) (by simp (maxSteps := 5000000) only [SA, SB, SD, R, guardAt, binP, intP, indexAddrP, elemsOf, readCells, lenP, lenAt, resultsP, resultP, oneOr, reduceCtorEq, reduceIte, Nat.reduceEqDiff, Nat.reduceAdd, Nat.zero_add, Nat.reduceMul, Nat.reduceLT, Nat.reduceLeDiff, Int.reduceLT, Int.reduceNeg, Int.reduceLE, appendP, appendAt, letGo, setLoc, locVal, Int.reduceToNat, boxCells, und])
          · have c4' : ¬ ((c.toNat : Int) > 126) := by omega
            have hbs := hbs1 (by omega)
            obtain ⟨ev, eo, so, co, ⟨hev, hco⟩, R⟩ := RULES CC; rw [← hev]
            rw [← hev] at key
            simp only [fpart, part', Tryd.f61, Option.getD]
            simp (maxSteps := 5000000) only [SA, SB, SD, R, guardAt, binP, intP, indexAddrP, elemsOf, readCells, lenP, lenAt, resultsP, resultP, oneOr, reduceCtorEq, reduceIte, Nat.reduceEqDiff, Nat.reduceAdd, Nat.zero_add, Nat.reduceMul, Nat.reduceLT, Nat.reduceLeDiff, Int.reduceLT, Int.reduceNeg, Int.reduceLE, appendP, appendAt, letGo, setLoc, locVal, Int.reduceToNat, boxCells, und, TG, SE, h0, h3, h4, hlen, hi, hix, c1', c2', c3', c4', hbs, ap_u8, hok, hc, hw]
            exact key _ (by simp (maxSteps := 5000000) only [SA, SB, SD, R, guardAt, binP, intP, indexAddrP, elemsOf, readCells, lenP, lenAt, resultsP, resultP, oneOr, reduceCtorEq, reduceIte, Nat.reduceEqDiff, Nat.reduceAdd, Nat.zero_add, Nat.reduceMul, Nat.reduceLT, Nat.reduceLeDiff, Int.reduceLT, Int.reduceNeg, Int.reduceLE, appendP, appendAt, letGo, setLoc, locVal, Int.reduceToNat, boxCells, und, h0]) (by simp (maxSteps := 5000000) only [SA, SB, SD, R, guardAt, binP, intP, indexAddrP, elemsOf, readCells, lenP, lenAt, resultsP, resultP, oneOr, reduceCtorEq, reduceIte, Nat.reduceEqDiff, Nat.reduceAdd, Nat.zero_add, Nat.reduceMul, Nat.reduceLT, Nat.reduceLeDiff, Int.reduceLT, Int.reduceNeg, Int.reduceLE, appendP, appendAt, letGo, setLoc, locVal, Int.reduceToNat, boxCells, und]) (by simp (maxSteps := 5000000) only [SA, SB, SD, R, guardAt, binP, intP, indexAddrP, elemsOf, readCells, lenP, lenAt, resultsP, resultP, oneOr, reduceCtorEq, reduceIte, Nat.reduceEqDiff, Nat.reduceAdd, Nat.zero_add, Nat.reduceMul, Nat.reduceLT, Nat.reduceLeDiff, Int.reduceLT, Int.reduceNeg, Int.reduceLE, appendP, appendAt, letGo, setLoc, locVal, Int.reduceToNat, boxCells, und])
theorem flat_le (t : List UInt8) : (t.flatMap formL).length ≤ 4 * t.length := by
  induction t with
  | nil => exact Nat.le_refl _
  | cons c t ih => have := formL_le c; rw [List.flatMap_cons, List.length_append, List.length_cons]; omega
theorem call_R04_Quote (s : List UInt8) (hs : s.length ≤ 200000) : callL CC 61 [.str s] [] = some (.ret (.str (quoteL s)), []) := by
  rw [callL_enter (fn := Tryd.f61) (c := Tryd.f61.body.getD .skip) rfl rfl fat_R04_Quote rfl ok_R04_Quote (Nat.le_of_ble_eq_true rfl)]
  have hloop := fun e => loop_R04_Quote _ rfl s hs s.length 0 [34] e (by omega) (by simp)
  have hbs := bs_one 34 (by decide)
  have hbs : buildSliceP CC 62 1 [(0, .int .u8 34)] = some (.osl 5 (bys [34])) := hbs
  have hq : [34] ++ (s.drop 0).flatMap formL ++ [34] = quoteL s := rfl
  have hcv1 := conv_b1 ([34] ++ (s.drop 0).flatMap formL ++ [34])
  have hcv2 := conv_b2 ([34] ++ (s.drop 0).flatMap formL ++ [34])
  have hfl := flat_le s
  have hc : (bys ([34] ++ (s.drop 0).flatMap formL)).length + (bys [34]).length ≤ 1000000 := by
    rw [bys_length, bys_length, List.length_append, List.drop_zero]
    simp only [List.length_cons, List.length_nil]
    omega
  have hok := bys_all [34]
  rw [hq, ← hq, bys_append ([34] ++ (s.drop 0).flatMap formL) [34], hq] at hcv1 hcv2
  generalize bys ([34] ++ (s.drop 0).flatMap formL) = xs at *
  generalize bys [34] = ys at *
  generalize quoteL s = Q at *
  obtain ⟨ev, eo, so, co, ⟨hev, hco⟩, R⟩ := RULES CC; rw [← hev]
  rw [← hev] at hloop
  simp only [fpart, part', Tryd.f61, Option.getD] at hloop ⊢
  simp (maxSteps := 5000000) only [SA, SB, SD, R, guardAt, binP, intP, indexAddrP, elemsOf, readCells, lenP, lenAt, resultsP, resultP, oneOr, reduceCtorEq, reduceIte, Nat.reduceEqDiff, Nat.reduceAdd, Nat.zero_add, Nat.reduceMul, Nat.reduceLT, Nat.reduceLeDiff, Int.reduceLT, Int.reduceNeg, Int.reduceLE, appendP, appendAt, letGo, setLoc, locVal, Int.reduceToNat, boxCells, und, TG, SE, hbs]
  generalize hE : ev _ _ = z
  have hP : ∃ e', z = some (.exit 0, ⟨e', []⟩) ∧ getT e' 3 = .osl 5 xs := by
    rw [← hE]
    refine hloop _ ?_ ?_ ?_
    · simp (maxSteps := 5000000) only [SA, SB, SD, R, guardAt, binP, intP, indexAddrP, elemsOf, readCells, lenP, lenAt, resultsP, resultP, oneOr, reduceCtorEq, reduceIte, Nat.reduceEqDiff, Nat.reduceAdd, Nat.zero_add, Nat.reduceMul, Nat.reduceLT, Nat.reduceLeDiff, Int.reduceLT, Int.reduceNeg, Int.reduceLE, appendP, appendAt, letGo, setLoc, locVal, Int.reduceToNat, boxCells, und]
    · simp (maxSteps := 5000000) only [SA, SB, SD, R, guardAt, binP, intP, indexAddrP, elemsOf, readCells, lenP, lenAt, resultsP, resultP, oneOr, reduceCtorEq, reduceIte, Nat.reduceEqDiff, Nat.reduceAdd, Nat.zero_add, Nat.reduceMul, Nat.reduceLT, Nat.reduceLeDiff, Int.reduceLT, Int.reduceNeg, Int.reduceLE, appendP, appendAt, letGo, setLoc, locVal, Int.reduceToNat, boxCells, und]
    · simp (maxSteps := 5000000) only [SA, SB, SD, R, guardAt, binP, intP, indexAddrP, elemsOf, readCells, lenP, lenAt, resultsP, resultP, oneOr, reduceCtorEq, reduceIte, Nat.reduceEqDiff, Nat.reduceAdd, Nat.zero_add, Nat.reduceMul, Nat.reduceLT, Nat.reduceLeDiff, Int.reduceLT, Int.reduceNeg, Int.reduceLE, appendP, appendAt, letGo, setLoc, locVal, Int.reduceToNat, boxCells, und]; rfl
  obtain ⟨e', he, h3⟩ := hP
  subst he
  simp (maxSteps := 5000000) only [SA, SB, SD, R, guardAt, binP, intP, indexAddrP, elemsOf, readCells, lenP, lenAt, resultsP, resultP, oneOr, reduceCtorEq, reduceIte, Nat.reduceEqDiff, Nat.reduceAdd, Nat.zero_add, Nat.reduceMul, Nat.reduceLT, Nat.reduceLeDiff, Int.reduceLT, Int.reduceNeg, Int.reduceLE, appendP, appendAt, letGo, setLoc, locVal, Int.reduceToNat, boxCells, und, TG, SE, h3, hbs, ap_u8, hok, hc, hcv1, hcv2]
theorem op_R04_Quote (s : List UInt8) (hs : s.length ≤ 200000) (bx) : callOp CC (callL CC) 61 [.str s] bx = some (.ret (.str (quoteL s)), bx) := callOp_of rfl (by simp only [SA, Bool.and_true]) (call_R04_Quote s hs) rfl
theorem ok_R04_quoted : fnOK CC Tryd.f82 (Tryd.f82.body.getD .skip) = true := by kernel_rfl
theorem fat_R04_quoted : CC.P.funcs[82]? = some Tryd.f82 := by kernel_rfl
theorem op_hex_n (n : Nat) (h : n < 256) (bx) : callOp CC (callL CC) 86 [.int .u8 (n : Int)] bx = some (.ret (.int .i64 (hexN n)), bx) := by
  have hn : (UInt8.ofNat n).toNat = n := by rw [UInt8.toNat_ofNat', Nat.mod_eq_of_lt (by omega)]
  have := op_R04_hex (UInt8.ofNat n) bx
  unfold hexV at this
  rwa [hn] at this
theorem hexN_lt (n : Nat) : -1 ≤ hexN n ∧ hexN n < 16 := by unfold hexN; split <;> (try split) <;> omega
/-- what the loose loop comes to -/
def PLo (s : List UInt8) (o : Option (List UInt8 × Nat)) (r : Option (Ex × St)) : Prop := match o with
  | some (b, i) => ∃ e', r = some (.exit 0, ⟨e', []⟩) ∧ getT e' 0 = .str s ∧ getT e' 1 = .int .i64 0 ∧ getT e' 6 = .osl 5 (bys b) ∧ getT e' 7 = .int .i64 (i : Int) ∧ b.length ≤ i ∧ i ≤ s.length
  | none => ∃ e', r = some (.ret, ⟨e', []⟩) ∧ getT e' 4 = .str [] ∧ getT e' 5 = .int .i64 (-1)
theorem step_esc (s : List UInt8) (hs : s.length ≤ 40000) (m : Nat) (L : Code) (hL : L = fpart Tryd.f82 [1,1,1,1,0,0]) (ih : ∀ (i : Nat) (b : List UInt8) (e : List PV), s.length - i < m → i ≤ s.length → b.length ≤ i → getT e 0 = .str s → getT e 1 = .int .i64 0 → getT e 6 = .osl 5 (bys b) → getT e 7 = .int .i64 i → PLo s (looseL m s i b) (evL CC L ⟨e, []⟩)) (i : Nat) (b : List UInt8) (e : List PV) (hm : s.length - i < m + 1) (hi : i ≤ s.length) (hb : b.length ≤ i) (h0 : getT e 0 = .str s) (h1 : getT e 1 = .int .i64 0) (h6 : getT e 6 = .osl 5 (bys b)) (h7 : getT e 7 = .int .i64 i) (hlt : i < s.length) (c1 : atL s i ≠ 34) (c2 : atL s i = 92) (d1 : i + 1 < s.length) (c3 : atL s (i + 1) = 34 ∨ atL s (i + 1) = 92) : PLo s (looseL (m + 1) s i b) (evL CC L ⟨e, []⟩) := by
  rw [evL_at (fpart Tryd.f82 [1,1,1,1,0,0,0]) hL]
  rw [looseL_succ]
  have hlen := len_str s
  have hbl : (bys b).length = b.length := bys_length b
  have hone : ∀ n, (bys [UInt8.ofNat n]).length = 1 := fun n => rfl
  have hoka : ∀ n, ((bys [UInt8.ofNat n]).all fun y => y.cells.length == 1) = true := fun n => bys_all _
  have hsn : ∀ n, bys (b ++ [UInt8.ofNat n]) = bys b ++ bys [UInt8.ofNat n] := fun n => bys_append _ _
  have a0 := atL_lt s i
  have a1 := atL_lt s (i + 1)
  have a2 := atL_lt s (i + 2)
  have a3 := atL_lt s (i + 3)
  have w1 := wrap_i64 (n := (i : Int) + 1) ⟨by omega, by omega⟩
  have w2 := wrap_i64 (n := (i : Int) + 2) ⟨by omega, by omega⟩
  have w3 := wrap_i64 (n := (i : Int) + 3) ⟨by omega, by omega⟩
  have w4 := wrap_i64 (n := (i : Int) + 4) ⟨by omega, by omega⟩
  have cast1 : ((i + 1 : Nat) : Int) = (i : Int) + 1 := by omega
  have cast2 : ((i + 2 : Nat) : Int) = (i : Int) + 2 := by omega
  have cast3 : ((i + 3 : Nat) : Int) = (i : Int) + 3 := by omega
  have cast4 : ((i + 4 : Nat) : Int) = (i : Int) + 4 := by omega
  have hil : (i : Int) < (s.length : Int) := by omega
  have hix := ix_at s i hlt
  have c1' : (((atL s i : Nat) : Int) != 34) = true := by simp; omega
  have c2' : (((atL s i : Nat) : Int) != 92) = false := by rw [c2]; rfl
  rw [if_pos ⟨hlt, c1⟩, if_neg (fun h => h c2)]
  have d1' : (i : Int) + 1 < (s.length : Int) := by omega
  have hix1 := ix_at s (i + 1) d1
  rw [cast1] at hix1
  rw [if_pos ⟨d1, c3⟩]
  have hbs := bs_one (atL s (i + 1)) a1
  have key := fun e => ih (i + 2) (b ++ [UInt8.ofNat (atL s (i + 1))]) e (by omega) (by omega) (by rw [List.length_append, List.length_singleton]; omega)
  rw [cast2, hsn] at key
  have hok := hoka (atL s (i + 1))
  have hc : (bys b).length + (bys [UInt8.ofNat (atL s (i + 1))]).length ≤ 1000000 := by rw [hone, hbl]; omega
  generalize looseL m s (i + 2) (b ++ [UInt8.ofNat (atL s (i + 1))]) = o at *
  generalize bys [UInt8.ofNat (atL s (i + 1))] = ys at *
  generalize bys b = xs at *
  by_cases c4 : atL s (i + 1) = 34
  · have c4' : (((atL s (i + 1) : Nat) : Int) == 34) = true := by rw [c4]; rfl
    obtain ⟨ev, eo, so, co, ⟨hev, hco⟩, R⟩ := RULES CC; rw [← hev]
    rw [← hev] at key
    simp only [fpart, part', Tryd.f82, Option.getD]
    simp (maxSteps := 5000000) only [SA, SB, SD, R, guardAt, binP, intP, indexAddrP, elemsOf, readCells, lenP, lenAt, resultsP, resultP, oneOr, reduceCtorEq, reduceIte, Nat.reduceEqDiff, Nat.reduceAdd, Nat.zero_add, Nat.reduceMul, Nat.reduceLT, Nat.reduceLeDiff, Int.reduceLT, Int.reduceNeg, Int.reduceLE, appendP, appendAt, letGo, setLoc, locVal, Int.reduceToNat, boxCells, und, TG, SE, h0, h1, h6, h7, hlen, hil, hix, hix1, c1', c2', d1', c4', w1, w2, hbs, ap_u8, hok, hc]
    exact key _ (by simp (maxSteps := 5000000) only [SA, SB, SD, R, guardAt, binP, intP, indexAddrP, elemsOf, readCells, lenP, lenAt, resultsP, resultP, oneOr, reduceCtorEq, reduceIte, Nat.reduceEqDiff, Nat.reduceAdd, Nat.zero_add, Nat.reduceMul, Nat.reduceLT, Nat.reduceLeDiff, Int.reduceLT, Int.reduceNeg, Int.reduceLE, appendP, appendAt, letGo, setLoc, locVal, Int.reduceToNat, boxCells, und, h0]) (by simp (maxSteps := 5000000) only [SA, SB, SD, R, guardAt, binP, intP, indexAddrP, elemsOf, readCells, lenP, lenAt, resultsP, resultP, oneOr, reduceCtorEq, reduceIte, Nat.reduceEqDiff, Nat.reduceAdd, Nat.zero_add, Nat.reduceMul, Nat.reduceLT, Nat.reduceLeDiff, Int.reduceLT, Int.reduceNeg, Int.reduceLE, appendP, appendAt, letGo, setLoc, locVal, Int.reduceToNat, boxCells, und, h1]) (by simp (maxSteps := 5000000) only [SA, SB, SD, R, guardAt, binP, intP, indexAddrP, elemsOf, readCells, lenP, lenAt, resultsP, resultP, oneOr, reduceCtorEq, reduceIte, Nat.reduceEqDiff, Nat.reduceAdd, Nat.zero_add, Nat.reduceMul, Nat.reduceLT, Nat.reduceLeDiff, Int.reduceLT, Int.reduceNeg, Int.reduceLE, appendP, appendAt, letGo, setLoc, locVal, Int.reduceToNat, boxCells, und]) (by simp (maxSteps := 5000000) only [SA, SB, SD, R, guardAt, binP, intP, indexAddrP, elemsOf, readCells, lenP, lenAt, resultsP, resultP, oneOr, reduceCtorEq, reduceIte, Nat.reduceEqDiff, Nat.reduceAdd, Nat.zero_add, Nat.reduceMul, Nat.reduceLT, Nat.reduceLeDiff, Int.reduceLT, Int.reduceNeg, Int.reduceLE, appendP, appendAt, letGo, setLoc, locVal, Int.reduceToNat, boxCells, und])
  · have c4' : (((atL s (i + 1) : Nat) : Int) == 34) = false := by simp; omega
    have c5' : (((atL s (i + 1) : Nat) : Int) == 92) = true := by simp; omega
    obtain ⟨ev, eo, so, co, ⟨hev, hco⟩, R⟩ := RULES CC; rw [← hev]
    rw [← hev] at key
    simp only [fpart, part', Tryd.f82, Option.getD]
    simp (maxSteps := 5000000) only [SA, SB, SD, R, guardAt, binP, intP, indexAddrP, elemsOf, readCells, lenP, lenAt, resultsP, resultP, oneOr, reduceCtorEq, reduceIte, Nat.reduceEqDiff, Nat.reduceAdd, Nat.zero_add, Nat.reduceMul, Nat.reduceLT, Nat.reduceLeDiff, Int.reduceLT, Int.reduceNeg, Int.reduceLE, appendP, appendAt, letGo, setLoc, locVal, Int.reduceToNat, boxCells, und, TG, SE, h0, h1, h6, h7, hlen, hil, hix, hix1, c1', c2', d1', c4', c5', w1, w2, hbs, ap_u8, hok, hc]
    exact key _ (by simp (maxSteps := 5000000) only [SA, SB, SD, R, guardAt, binP, intP, indexAddrP, elemsOf, readCells, lenP, lenAt, resultsP, resultP, oneOr, reduceCtorEq, reduceIte, Nat.reduceEqDiff, Nat.reduceAdd, Nat.zero_add, Nat.reduceMul, Nat.reduceLT, Nat.reduceLeDiff, Int.reduceLT, Int.reduceNeg, Int.reduceLE, appendP, appendAt, letGo, setLoc, locVal, Int.reduceToNat, boxCells, und, h0]) (by simp (maxSteps := 5000000) only [SA, SB, SD, R, guardAt, binP, intP, indexAddrP, elemsOf, readCells, lenP, lenAt, resultsP, resultP, oneOr, reduceCtorEq, reduceIte, Nat.reduceEqDiff, Nat.reduceAdd, Nat.zero_add, Nat.reduceMul, Nat.reduceLT, Nat.reduceLeDiff, Int.reduceLT, Int.reduceNeg, Int.reduceLE, appendP, appendAt, letGo, setLoc, locVal, Int.reduceToNat, boxCells, und, h1]) (by simp (maxSteps := 5000000) only [SA, SB, SD, R, guardAt, binP, intP, indexAddrP, elemsOf, readCells, lenP, lenAt, resultsP, resultP, oneOr, reduceCtorEq, reduceIte, Nat.reduceEqDiff, Nat.reduceAdd, Nat.zero_add, Nat.reduceMul, Nat.reduceLT, Nat.reduceLeDiff, Int.reduceLT, Int.reduceNeg, Int.reduceLE, appendP, appendAt, letGo, setLoc, locVal, Int.reduceToNat, boxCells, und]) (by simp (maxSteps := 5000000) only [SA, SB, SD, R, guardAt, binP, intP, indexAddrP, elemsOf, readCells, lenP, lenAt, resultsP, resultP, oneOr, reduceCtorEq, reduceIte, Nat.reduceEqDiff, Nat.reduceAdd, Nat.zero_add, Nat.reduceMul, Nat.reduceLT, Nat.reduceLeDiff, Int.reduceLT, Int.reduceNeg, Int.reduceLE, appendP, appendAt, letGo, setLoc, locVal, Int.reduceToNat, boxCells, und])
theorem step_chr (s : List UInt8) (hs : s.length ≤ 40000) (m : Nat) (L : Code) (hL : L = fpart Tryd.f82 [1,1,1,1,0,0]) (ih : ∀ (i : Nat) (b : List UInt8) (e : List PV), s.length - i < m → i ≤ s.length → b.length ≤ i → getT e 0 = .str s → getT e 1 = .int .i64 0 → getT e 6 = .osl 5 (bys b) → getT e 7 = .int .i64 i → PLo s (looseL m s i b) (evL CC L ⟨e, []⟩)) (i : Nat) (b : List UInt8) (e : List PV) (hm : s.length - i < m + 1) (hi : i ≤ s.length) (hb : b.length ≤ i) (h0 : getT e 0 = .str s) (h1 : getT e 1 = .int .i64 0) (h6 : getT e 6 = .osl 5 (bys b)) (h7 : getT e 7 = .int .i64 i) (hlt : i < s.length) (c1 : atL s i ≠ 34) (c2 : atL s i ≠ 92) : PLo s (looseL (m + 1) s i b) (evL CC L ⟨e, []⟩) := by
  rw [evL_at (fpart Tryd.f82 [1,1,1,1,0,0,0]) hL]
  rw [looseL_succ]
  have hlen := len_str s
  have hbl : (bys b).length = b.length := bys_length b
  have hone : ∀ n, (bys [UInt8.ofNat n]).length = 1 := fun n => rfl
  have hoka : ∀ n, ((bys [UInt8.ofNat n]).all fun y => y.cells.length == 1) = true := fun n => bys_all _
  have hsn : ∀ n, bys (b ++ [UInt8.ofNat n]) = bys b ++ bys [UInt8.ofNat n] := fun n => bys_append _ _
  have a0 := atL_lt s i
  have a1 := atL_lt s (i + 1)
  have a2 := atL_lt s (i + 2)
  have a3 := atL_lt s (i + 3)
  have w1 := wrap_i64 (n := (i : Int) + 1) ⟨by omega, by omega⟩
  have w2 := wrap_i64 (n := (i : Int) + 2) ⟨by omega, by omega⟩
  have w3 := wrap_i64 (n := (i : Int) + 3) ⟨by omega, by omega⟩
  have w4 := wrap_i64 (n := (i : Int) + 4) ⟨by omega, by omega⟩
  have cast1 : ((i + 1 : Nat) : Int) = (i : Int) + 1 := by omega
  have cast2 : ((i + 2 : Nat) : Int) = (i : Int) + 2 := by omega
  have cast3 : ((i + 3 : Nat) : Int) = (i : Int) + 3 := by omega
  have cast4 : ((i + 4 : Nat) : Int) = (i : Int) + 4 := by omega
  have hil : (i : Int) < (s.length : Int) := by omega
  have hix := ix_at s i hlt
  have c1' : (((atL s i : Nat) : Int) != 34) = true := by simp; omega
  rw [if_pos ⟨hlt, c1⟩]
  have c2' : (((atL s i : Nat) : Int) != 92) = true := by simp; omega
  rw [if_pos c2]
  have hbs := bs_one (atL s i) a0
  have key := fun e => ih (i + 1) (b ++ [UInt8.ofNat (atL s i)]) e (by omega) (by omega) (by rw [List.length_append, List.length_singleton]; omega)
  rw [cast1, hsn] at key
  have hok := hoka (atL s i)
  have hc : (bys b).length + (bys [UInt8.ofNat (atL s i)]).length ≤ 1000000 := by rw [hone, hbl]; omega
  generalize looseL m s (i + 1) (b ++ [UInt8.ofNat (atL s i)]) = o at *
  generalize bys [UInt8.ofNat (atL s i)] = ys at *
  generalize bys b = xs at *
  obtain ⟨ev, eo, so, co, ⟨hev, hco⟩, R⟩ := RULES CC; rw [← hev]
  rw [← hev] at key
  simp only [fpart, part', Tryd.f82, Option.getD]
  simp (maxSteps := 5000000) only [SA, SB, SD, R, guardAt, binP, intP, indexAddrP, elemsOf, readCells, lenP, lenAt, resultsP, resultP, oneOr, reduceCtorEq, reduceIte, Nat.reduceEqDiff, Nat.reduceAdd, Nat.zero_add, Nat.reduceMul, Nat.reduceLT, Nat.reduceLeDiff, Int.reduceLT, Int.reduceNeg, Int.reduceLE, appendP, appendAt, letGo, setLoc, locVal, Int.reduceToNat, boxCells, und, TG, SE, h0, h1, h6, h7, hlen, hil, hix, c1', c2', w1, hbs, ap_u8, hok, hc]
  exact key _ (by simp (maxSteps := 5000000) only [SA, SB, SD, R, guardAt, binP, intP, indexAddrP, elemsOf, readCells, lenP, lenAt, resultsP, resultP, oneOr, reduceCtorEq, reduceIte, Nat.reduceEqDiff, Nat.reduceAdd, Nat.zero_add, Nat.reduceMul, Nat.reduceLT, Nat.reduceLeDiff, Int.reduceLT, Int.reduceNeg, Int.reduceLE, appendP, appendAt, letGo, setLoc, locVal, Int.reduceToNat, boxCells, und, h0]) (by simp (maxSteps := 5000000) only [SA, SB, SD, R, guardAt, binP, intP, indexAddrP, elemsOf, readCells, lenP, lenAt, resultsP, resultP, oneOr, reduceCtorEq, reduceIte, Nat.reduceEqDiff, Nat.reduceAdd, Nat.zero_add, Nat.reduceMul, Nat.reduceLT, Nat.reduceLeDiff, Int.reduceLT, Int.reduceNeg, Int.reduceLE, appendP, appendAt, letGo, setLoc, locVal, Int.reduceToNat, boxCells, und, h1]) (by simp (maxSteps := 5000000) only [SA, SB, SD, R, guardAt, binP, intP, indexAddrP, elemsOf, readCells, lenP, lenAt, resultsP, resultP, oneOr, reduceCtorEq, reduceIte, Nat.reduceEqDiff, Nat.reduceAdd, Nat.zero_add, Nat.reduceMul, Nat.reduceLT, Nat.reduceLeDiff, Int.reduceLT, Int.reduceNeg, Int.reduceLE, appendP, appendAt, letGo, setLoc, locVal, Int.reduceToNat, boxCells, und]) (by simp (maxSteps := 5000000) only [SA, SB, SD, R, guardAt, binP, intP, indexAddrP, elemsOf, readCells, lenP, lenAt, resultsP, resultP, oneOr, reduceCtorEq, reduceIte, Nat.reduceEqDiff, Nat.reduceAdd, Nat.zero_add, Nat.reduceMul, Nat.reduceLT, Nat.reduceLeDiff, Int.reduceLT, Int.reduceNeg, Int.reduceLE, appendP, appendAt, letGo, setLoc, locVal, Int.reduceToNat, boxCells, und])
theorem step_hex (s : List UInt8) (hs : s.length ≤ 40000) (m : Nat) (L : Code) (hL : L = fpart Tryd.f82 [1,1,1,1,0,0]) (ih : ∀ (i : Nat) (b : List UInt8) (e : List PV), s.length - i < m → i ≤ s.length → b.length ≤ i → getT e 0 = .str s → getT e 1 = .int .i64 0 → getT e 6 = .osl 5 (bys b) → getT e 7 = .int .i64 i → PLo s (looseL m s i b) (evL CC L ⟨e, []⟩)) (i : Nat) (b : List UInt8) (e : List PV) (hm : s.length - i < m + 1) (hi : i ≤ s.length) (hb : b.length ≤ i) (h0 : getT e 0 = .str s) (h1 : getT e 1 = .int .i64 0) (h6 : getT e 6 = .osl 5 (bys b)) (h7 : getT e 7 = .int .i64 i) (hlt : i < s.length) (c1 : atL s i ≠ 34) (c2 : atL s i = 92) (d1 : i + 1 < s.length) (c3 : ¬ (atL s (i + 1) = 34 ∨ atL s (i + 1) = 92)) (d3 : i + 3 < s.length) (c6 : atL s (i + 1) = 120) (c7 : 0 ≤ hexN (atL s (i + 2))) (c8 : 0 ≤ hexN (atL s (i + 3))) : PLo s (looseL (m + 1) s i b) (evL CC L ⟨e, []⟩) := by
  rw [evL_at (fpart Tryd.f82 [1,1,1,1,0,0,0]) hL]
  rw [looseL_succ]
  have hlen := len_str s
  have hbl : (bys b).length = b.length := bys_length b
  have hone : ∀ n, (bys [UInt8.ofNat n]).length = 1 := fun n => rfl
  have hoka : ∀ n, ((bys [UInt8.ofNat n]).all fun y => y.cells.length == 1) = true := fun n => bys_all _
  have hsn : ∀ n, bys (b ++ [UInt8.ofNat n]) = bys b ++ bys [UInt8.ofNat n] := fun n => bys_append _ _
  have a0 := atL_lt s i
  have a1 := atL_lt s (i + 1)
  have a2 := atL_lt s (i + 2)
  have a3 := atL_lt s (i + 3)
  have w1 := wrap_i64 (n := (i : Int) + 1) ⟨by omega, by omega⟩
  have w2 := wrap_i64 (n := (i : Int) + 2) ⟨by omega, by omega⟩
  have w3 := wrap_i64 (n := (i : Int) + 3) ⟨by omega, by omega⟩
  have w4 := wrap_i64 (n := (i : Int) + 4) ⟨by omega, by omega⟩
  have cast1 : ((i + 1 : Nat) : Int) = (i : Int) + 1 := by omega
  have cast2 : ((i + 2 : Nat) : Int) = (i : Int) + 2 := by omega
  have cast3 : ((i + 3 : Nat) : Int) = (i : Int) + 3 := by omega
  have cast4 : ((i + 4 : Nat) : Int) = (i : Int) + 4 := by omega
  have hil : (i : Int) < (s.length : Int) := by omega
  have hix := ix_at s i hlt
  have c1' : (((atL s i : Nat) : Int) != 34) = true := by simp; omega
  have c2' : (((atL s i : Nat) : Int) != 92) = false := by rw [c2]; rfl
  rw [if_pos ⟨hlt, c1⟩, if_neg (fun h => h c2)]
  have d1' : (i : Int) + 1 < (s.length : Int) := by omega
  have hix1 := ix_at s (i + 1) d1
  rw [cast1] at hix1
  rw [if_neg (fun h => c3 h.2)]
  have c4' : (((atL s (i + 1) : Nat) : Int) == 34) = false := by simp; omega
  have c5' : (((atL s (i + 1) : Nat) : Int) == 92) = false := by simp; omega
  have d3' : (i : Int) + 3 < (s.length : Int) := by omega
  have hix2 := ix_at s (i + 2) (by omega)
  have hix3 := ix_at s (i + 3) (by omega)
  rw [cast2] at hix2
  rw [cast3] at hix3
  have c6' : (((atL s (i + 1) : Nat) : Int) == 120) = true := by rw [c6]; rfl
  have hh2 := op_hex_n (atL s (i + 2)) a2
  have hh3 := op_hex_n (atL s (i + 3)) a3
  have hb2 := hexN_lt (atL s (i + 2))
  have hb3 := hexN_lt (atL s (i + 3))
  have c7' : hexN (atL s (i + 2)) ≥ 0 := c7
  have c8' : hexN (atL s (i + 3)) ≥ 0 := c8
  rw [if_pos ⟨d3, c6, c7, c8⟩]
  have hV : (hexN (atL s (i + 2)) * 16 + hexN (atL s (i + 3))).toNat < 256 := by omega
  have hVi : (((hexN (atL s (i + 2)) * 16 + hexN (atL s (i + 3))).toNat : Nat) : Int) = 16 * hexN (atL s (i + 2)) + hexN (atL s (i + 3)) := by omega
  have hbs := bs_one _ hV
  rw [hVi] at hbs
  have key := fun e => ih (i + 4) (b ++ [UInt8.ofNat (hexN (atL s (i + 2)) * 16 + hexN (atL s (i + 3))).toNat]) e (by omega) (by omega) (by rw [List.length_append, List.length_singleton]; omega)
  rw [cast4, hsn] at key
  have hok := hoka (hexN (atL s (i + 2)) * 16 + hexN (atL s (i + 3))).toNat
  have hc : (bys b).length + (bys [UInt8.ofNat (hexN (atL s (i + 2)) * 16 + hexN (atL s (i + 3))).toNat]).length ≤ 1000000 := by rw [hone, hbl]; omega
  have hcv := conv_i_u8 (16 * hexN (atL s (i + 2)) + hexN (atL s (i + 3))) ⟨by omega, by omega⟩
  have v1 := wrap_i64 (n := 16 * hexN (atL s (i + 2))) ⟨by omega, by omega⟩
  have v2 := wrap_i64 (n := 16 * hexN (atL s (i + 2)) + hexN (atL s (i + 3))) ⟨by omega, by omega⟩
  generalize looseL m s (i + 4) (b ++ [UInt8.ofNat (hexN (atL s (i + 2)) * 16 + hexN (atL s (i + 3))).toNat]) = o at *
  generalize bys [UInt8.ofNat (hexN (atL s (i + 2)) * 16 + hexN (atL s (i + 3))).toNat] = ys at *
  generalize bys b = xs at *
  obtain ⟨ev, eo, so, co, ⟨hev, hco⟩, R⟩ := RULES CC; rw [← hev]
  rw [← hev] at key
  rw [← hco] at hh2 hh3
  simp only [fpart, part', Tryd.f82, Option.getD]
  simp (maxSteps := 5000000) only [SA, SB, SD, R, guardAt, binP, intP, indexAddrP, elemsOf, readCells, lenP, lenAt, resultsP, resultP, oneOr, reduceCtorEq, reduceIte, Nat.reduceEqDiff, Nat.reduceAdd, Nat.zero_add, Nat.reduceMul, Nat.reduceLT, Nat.reduceLeDiff, Int.reduceLT, Int.reduceNeg, Int.reduceLE, appendP, appendAt, letGo, setLoc, locVal, Int.reduceToNat, boxCells, und, TG, SE, h0, h1, h6, h7, hlen, hil, hix, hix1, hix2, hix3, c1', c2', d1', c4', c5', d3', c6', hh2, hh3, c7', c8', v1, v2, hcv, w1, w2, w3, w4, hbs, ap_u8, hok, hc]
  exact key _ (by simp (maxSteps := 5000000) only [SA, SB, SD, R, guardAt, binP, intP, indexAddrP, elemsOf, readCells, lenP, lenAt, resultsP, resultP, oneOr, reduceCtorEq, reduceIte, Nat.reduceEqDiff, Nat.reduceAdd, Nat.zero_add, Nat.reduceMul, Nat.reduceLT, Nat.reduceLeDiff, Int.reduceLT, Int.reduceNeg, Int.reduceLE, appendP, appendAt, letGo, setLoc, locVal, Int.reduceToNat, boxCells, und, h0]) (by simp (maxSteps := 5000000) only [SA, SB, SD, R, guardAt, binP, intP, indexAddrP, elemsOf, readCells, lenP, lenAt, resultsP, resultP, oneOr, reduceCtorEq, reduceIte, Nat.reduceEqDiff, Nat.reduceAdd, Nat.zero_add, Nat.reduceMul, Nat.reduceLT, Nat.reduceLeDiff, Int.reduceLT, Int.reduceNeg, Int.reduceLE, appendP, appendAt, letGo, setLoc, locVal, Int.reduceToNat, boxCells, und, h1]) (by simp (maxSteps := 5000000) only [SA, SB, SD, R, guardAt, binP, intP, indexAddrP, elemsOf, readCells, lenP, lenAt, resultsP, resultP, oneOr, reduceCtorEq, reduceIte, Nat.reduceEqDiff, Nat.reduceAdd, Nat.zero_add, Nat.reduceMul, Nat.reduceLT, Nat.reduceLeDiff, Int.reduceLT, Int.reduceNeg, Int.reduceLE, appendP, appendAt, letGo, setLoc, locVal, Int.reduceToNat, boxCells, und]) (by simp (maxSteps := 5000000) only [SA, SB, SD, R, guardAt, binP, intP, indexAddrP, elemsOf, readCells, lenP, lenAt, resultsP, resultP, oneOr, reduceCtorEq, reduceIte, Nat.reduceEqDiff, Nat.reduceAdd, Nat.zero_add, Nat.reduceMul, Nat.reduceLT, Nat.reduceLeDiff, Int.reduceLT, Int.reduceNeg, Int.reduceLE, appendP, appendAt, letGo, setLoc, locVal, Int.reduceToNat, boxCells, und])
theorem loop_R04_quoted (L : Code) (hL : L = fpart Tryd.f82 [1,1,1,1,0,0]) (s : List UInt8) (hs : s.length ≤ 40000) : ∀ (m i : Nat) (b : List UInt8) (e : List PV), s.length - i < m → i ≤ s.length → b.length ≤ i → getT e 0 = .str s → getT e 1 = .int .i64 0 → getT e 6 = .osl 5 (bys b) → getT e 7 = .int .i64 i →
    PLo s (looseL m s i b) (evL CC L ⟨e, []⟩) := by
  intro m
  induction m with
  | zero => intro i b e hm; omega
  | succ m ih =>
    intro i b e hm hi hb h0 h1 h6 h7
    by_cases D : i < s.length ∧ atL s i ≠ 34 ∧ atL s i = 92 ∧ i + 1 < s.length ∧ (atL s (i + 1) = 34 ∨ atL s (i + 1) = 92)
    · exact step_esc s hs m L hL ih i b e hm hi hb h0 h1 h6 h7 D.1 D.2.1 D.2.2.1 D.2.2.2.1 D.2.2.2.2
    by_cases D' : i < s.length ∧ atL s i ≠ 34 ∧ atL s i = 92 ∧ i + 1 < s.length ∧ ¬ (atL s (i + 1) = 34 ∨ atL s (i + 1) = 92) ∧ i + 3 < s.length ∧ atL s (i + 1) = 120 ∧ 0 ≤ hexN (atL s (i + 2)) ∧ 0 ≤ hexN (atL s (i + 3))
    · obtain ⟨k1, k2, k3, k4, k5, k6, k7, k8, k9⟩ := D'
      exact step_hex s hs m L hL ih i b e hm hi hb h0 h1 h6 h7 k1 k2 k3 k4 k5 k6 k7 k8 k9
    by_cases D'' : i < s.length ∧ atL s i ≠ 34 ∧ atL s i ≠ 92
    · exact step_chr s hs m L hL ih i b e hm hi hb h0 h1 h6 h7 D''.1 D''.2.1 D''.2.2
    rw [evL_at (fpart Tryd.f82 [1,1,1,1,0,0,0]) hL]
    rw [looseL_succ]
    have hlen := len_str s
    have hbl : (bys b).length = b.length := bys_length b
    have hone : ∀ n, (bys [UInt8.ofNat n]).length = 1 := fun n => rfl
    have hoka : ∀ n, ((bys [UInt8.ofNat n]).all fun y => y.cells.length == 1) = true := fun n => bys_all _
    have hsn : ∀ n, bys (b ++ [UInt8.ofNat n]) = bys b ++ bys [UInt8.ofNat n] := fun n => bys_append _ _
    have a0 := atL_lt s i
    have a1 := atL_lt s (i + 1)
    have a2 := atL_lt s (i + 2)
    have a3 := atL_lt s (i + 3)
    have w1 := wrap_i64 (n := (i : Int) + 1) ⟨by omega, by omega⟩
    have w2 := wrap_i64 (n := (i : Int) + 2) ⟨by omega, by omega⟩
    have w3 := wrap_i64 (n := (i : Int) + 3) ⟨by omega, by omega⟩
    have w4 := wrap_i64 (n := (i : Int) + 4) ⟨by omega, by omega⟩
    have cast1 : ((i + 1 : Nat) : Int) = (i : Int) + 1 := by omega
    have cast2 : ((i + 2 : Nat) : Int) = (i : Int) + 2 := by omega
    have cast3 : ((i + 3 : Nat) : Int) = (i : Int) + 3 := by omega
    have cast4 : ((i + 4 : Nat) : Int) = (i : Int) + 4 := by omega
    by_cases hlt : i < s.length
    · have hil : (i : Int) < (s.length : Int) := by omega
      have hix := ix_at s i hlt
      by_cases c1 : atL s i = 34
      · have c1' : (((atL s i : Nat) : Int) != 34) = false := by rw [c1]; rfl
        rw [if_neg (fun h => h.2 c1)]
        obtain ⟨ev, eo, so, co, ⟨hev, hco⟩, R⟩ := RULES CC; rw [← hev]
        simp only [fpart, part', Tryd.f82, Option.getD]
        simp (maxSteps := 5000000) only [SA, SB, SD, R, guardAt, binP, intP, indexAddrP, elemsOf, readCells, lenP, lenAt, resultsP, resultP, oneOr, reduceCtorEq, reduceIte, Nat.reduceEqDiff, Nat.reduceAdd, Nat.zero_add, Nat.reduceMul, Nat.reduceLT, Nat.reduceLeDiff, Int.reduceLT, Int.reduceNeg, Int.reduceLE, appendP, appendAt, letGo, setLoc, locVal, Int.reduceToNat, boxCells, und, TG, SE, h0, h1, h6, h7, hlen, hil, hix, c1']
        exact ⟨_, rfl, by simp (maxSteps := 5000000) only [SA, SB, SD, R, guardAt, binP, intP, indexAddrP, elemsOf, readCells, lenP, lenAt, resultsP, resultP, oneOr, reduceCtorEq, reduceIte, Nat.reduceEqDiff, Nat.reduceAdd, Nat.zero_add, Nat.reduceMul, Nat.reduceLT, Nat.reduceLeDiff, Int.reduceLT, Int.reduceNeg, Int.reduceLE, appendP, appendAt, letGo, setLoc, locVal, Int.reduceToNat, boxCells, und, h0], by simp (maxSteps := 5000000) only [SA, SB, SD, R, guardAt, binP, intP, indexAddrP, elemsOf, readCells, lenP, lenAt, resultsP, resultP, oneOr, reduceCtorEq, reduceIte, Nat.reduceEqDiff, Nat.reduceAdd, Nat.zero_add, Nat.reduceMul, Nat.reduceLT, Nat.reduceLeDiff, Int.reduceLT, Int.reduceNeg, Int.reduceLE, appendP, appendAt, letGo, setLoc, locVal, Int.reduceToNat, boxCells, und, h1], by simp (maxSteps := 5000000) only [SA, SB, SD, R, guardAt, binP, intP, indexAddrP, elemsOf, readCells, lenP, lenAt, resultsP, resultP, oneOr, reduceCtorEq, reduceIte, Nat.reduceEqDiff, Nat.reduceAdd, Nat.zero_add, Nat.reduceMul, Nat.reduceLT, Nat.reduceLeDiff, Int.reduceLT, Int.reduceNeg, Int.reduceLE, appendP, appendAt, letGo, setLoc, locVal, Int.reduceToNat, boxCells, und, h6], by simp (maxSteps := 5000000) only [SA, SB, SD, R, guardAt, binP, intP, indexAddrP, elemsOf, readCells, lenP, lenAt, resultsP, resultP, oneOr, reduceCtorEq, reduceIte, Nat.reduceEqDiff, Nat.reduceAdd, Nat.zero_add, Nat.reduceMul, Nat.reduceLT, Nat.reduceLeDiff, Int.reduceLT, Int.reduceNeg, Int.reduceLE, appendP, appendAt, letGo, setLoc, locVal, Int.reduceToNat, boxCells, und, h7], hb, hi⟩
      · have c1' : (((atL s i : Nat) : Int) != 34) = true := by simp; omega
        rw [if_pos ⟨hlt, c1⟩]
        by_cases c2 : atL s i = 92
        · have c2' : (((atL s i : Nat) : Int) != 92) = false := by rw [c2]; rfl
          rw [if_neg (fun h => h c2)]
          by_cases d1 : i + 1 < s.length
          · have d1' : (i : Int) + 1 < (s.length : Int) := by omega
            have hix1 := ix_at s (i + 1) d1
            rw [cast1] at hix1
            by_cases c3 : atL s (i + 1) = 34 ∨ atL s (i + 1) = 92
            · exact absurd ⟨hlt, c1, c2, d1, c3⟩ D
            · rw [if_neg (fun h => c3 h.2)]
              have c4' : (((atL s (i + 1) : Nat) : Int) == 34) = false := by simp; omega
              have c5' : (((atL s (i + 1) : Nat) : Int) == 92) = false := by simp; omega
              by_cases d3 : i + 3 < s.length
              · have d3' : (i : Int) + 3 < (s.length : Int) := by omega
                have hix2 := ix_at s (i + 2) (by omega)
                have hix3 := ix_at s (i + 3) (by omega)
                rw [cast2] at hix2
                rw [cast3] at hix3
                by_cases c6 : atL s (i + 1) = 120
                · have c6' : (((atL s (i + 1) : Nat) : Int) == 120) = true := by rw [c6]; rfl
                  have hh2 := op_hex_n (atL s (i + 2)) a2
                  have hh3 := op_hex_n (atL s (i + 3)) a3
                  have hb2 := hexN_lt (atL s (i + 2))
                  have hb3 := hexN_lt (atL s (i + 3))
                  by_cases c7 : 0 ≤ hexN (atL s (i + 2))
                  · have c7' : hexN (atL s (i + 2)) ≥ 0 := c7
                    by_cases c8 : 0 ≤ hexN (atL s (i + 3))
                    · exact absurd ⟨hlt, c1, c2, d1, c3, d3, c6, c7, c8⟩ D'
                    · have c8' : ¬ hexN (atL s (i + 3)) ≥ 0 := c8
                      rw [if_neg (fun h => c8 h.2.2.2)]
                      obtain ⟨ev, eo, so, co, ⟨hev, hco⟩, R⟩ := RULES CC; rw [← hev]
                      rw [← hco] at hh2 hh3
                      simp only [fpart, part', Tryd.f82, Option.getD]
                      simp (maxSteps := 5000000) only [SA, SB, SD, R, guardAt, binP, intP, indexAddrP, elemsOf, readCells, lenP, lenAt, resultsP, resultP, oneOr, reduceCtorEq, reduceIte, Nat.reduceEqDiff, Nat.reduceAdd, Nat.zero_add, Nat.reduceMul, Nat.reduceLT, Nat.reduceLeDiff, Int.reduceLT, Int.reduceNeg, Int.reduceLE, appendP, appendAt, letGo, setLoc, locVal, Int.reduceToNat, boxCells, und, TG, SE, h0, h1, h6, h7, hlen, hil, hix, hix1, hix2, hix3, c1', c2', d1', c4', c5', d3', c6', hh2, hh3, c7', c8', w1, w2, w3, w4]
                      exact ⟨_, rfl, by simp (maxSteps := 5000000) only [SA, SB, SD, R, guardAt, binP, intP, indexAddrP, elemsOf, readCells, lenP, lenAt, resultsP, resultP, oneOr, reduceCtorEq, reduceIte, Nat.reduceEqDiff, Nat.reduceAdd, Nat.zero_add, Nat.reduceMul, Nat.reduceLT, Nat.reduceLeDiff, Int.reduceLT, Int.reduceNeg, Int.reduceLE, appendP, appendAt, letGo, setLoc, locVal, Int.reduceToNat, boxCells, und], by simp (maxSteps := 5000000) only [SA, SB, SD, R, guardAt, binP, intP, indexAddrP, elemsOf, readCells, lenP, lenAt, resultsP, resultP, oneOr, reduceCtorEq, reduceIte, Nat.reduceEqDiff, Nat.reduceAdd, Nat.zero_add, Nat.reduceMul, Nat.reduceLT, Nat.reduceLeDiff, Int.reduceLT, Int.reduceNeg, Int.reduceLE, appendP, appendAt, letGo, setLoc, locVal, Int.reduceToNat, boxCells, und]⟩
                  · have c7' : ¬ hexN (atL s (i + 2)) ≥ 0 := c7
                    rw [if_neg (fun h => c7 h.2.2.1)]
                    obtain ⟨ev, eo, so, co, ⟨hev, hco⟩, R⟩ := RULES CC; rw [← hev]
                    rw [← hco] at hh2 hh3
                    simp only [fpart, part', Tryd.f82, Option.getD]
                    simp (maxSteps := 5000000) only [SA, SB, SD, R, guardAt, binP, intP, indexAddrP, elemsOf, readCells, lenP, lenAt, resultsP, resultP, oneOr, reduceCtorEq, reduceIte, Nat.reduceEqDiff, Nat.reduceAdd, Nat.zero_add, Nat.reduceMul, Nat.reduceLT, Nat.reduceLeDiff, Int.reduceLT, Int.reduceNeg, Int.reduceLE, appendP, appendAt, letGo, setLoc, locVal, Int.reduceToNat, boxCells, und, TG, SE, h0, h1, h6, h7, hlen, hil, hix, hix1, hix2, hix3, c1', c2', d1', c4', c5', d3', c6', hh2, hh3, c7', w1, w2, w3, w4]
                    exact ⟨_, rfl, by simp (maxSteps := 5000000) only [SA, SB, SD, R, guardAt, binP, intP, indexAddrP, elemsOf, readCells, lenP, lenAt, resultsP, resultP, oneOr, reduceCtorEq, reduceIte, Nat.reduceEqDiff, Nat.reduceAdd, Nat.zero_add, Nat.reduceMul, Nat.reduceLT, Nat.reduceLeDiff, Int.reduceLT, Int.reduceNeg, Int.reduceLE, appendP, appendAt, letGo, setLoc, locVal, Int.reduceToNat, boxCells, und], by simp (maxSteps := 5000000) only [SA, SB, SD, R, guardAt, binP, intP, indexAddrP, elemsOf, readCells, lenP, lenAt, resultsP, resultP, oneOr, reduceCtorEq, reduceIte, Nat.reduceEqDiff, Nat.reduceAdd, Nat.zero_add, Nat.reduceMul, Nat.reduceLT, Nat.reduceLeDiff, Int.reduceLT, Int.reduceNeg, Int.reduceLE, appendP, appendAt, letGo, setLoc, locVal, Int.reduceToNat, boxCells, und]⟩
                · have c6' : (((atL s (i + 1) : Nat) : Int) == 120) = false := by simp; omega
                  rw [if_neg (fun h => c6 h.2.1)]
                  obtain ⟨ev, eo, so, co, ⟨hev, hco⟩, R⟩ := RULES CC; rw [← hev]
                  simp only [fpart, part', Tryd.f82, Option.getD]
                  simp (maxSteps := 5000000) only [SA, SB, SD, R, guardAt, binP, intP, indexAddrP, elemsOf, readCells, lenP, lenAt, resultsP, resultP, oneOr, reduceCtorEq, reduceIte, Nat.reduceEqDiff, Nat.reduceAdd, Nat.zero_add, Nat.reduceMul, Nat.reduceLT, Nat.reduceLeDiff, Int.reduceLT, Int.reduceNeg, Int.reduceLE, appendP, appendAt, letGo, setLoc, locVal, Int.reduceToNat, boxCells, und, TG, SE, h0, h1, h6, h7, hlen, hil, hix, hix1, hix2, hix3, c1', c2', d1', c4', c5', d3', c6', w1, w2, w3, w4]
                  exact ⟨_, rfl, by simp (maxSteps := 5000000) only [SA, SB, SD, R, guardAt, binP, intP, indexAddrP, elemsOf, readCells, lenP, lenAt, resultsP, resultP, oneOr, reduceCtorEq, reduceIte, Nat.reduceEqDiff, Nat.reduceAdd, Nat.zero_add, Nat.reduceMul, Nat.reduceLT, Nat.reduceLeDiff, Int.reduceLT, Int.reduceNeg, Int.reduceLE, appendP, appendAt, letGo, setLoc, locVal, Int.reduceToNat, boxCells, und], by simp (maxSteps := 5000000) only [SA, SB, SD, R, guardAt, binP, intP, indexAddrP, elemsOf, readCells, lenP, lenAt, resultsP, resultP, oneOr, reduceCtorEq, reduceIte, Nat.reduceEqDiff, Nat.reduceAdd, Nat.zero_add, Nat.reduceMul, Nat.reduceLT, Nat.reduceLeDiff, Int.reduceLT, Int.reduceNeg, Int.reduceLE, appendP, appendAt, letGo, setLoc, locVal, Int.reduceToNat, boxCells, und]⟩
              · have d3' : ¬ (i : Int) + 3 < (s.length : Int) := by omega
                rw [if_neg (fun h => d3 h.1)]
                obtain ⟨ev, eo, so, co, ⟨hev, hco⟩, R⟩ := RULES CC; rw [← hev]
                simp only [fpart, part', Tryd.f82, Option.getD]
                simp (maxSteps := 5000000) only [SA, SB, SD, R, guardAt, binP, intP, indexAddrP, elemsOf, readCells, lenP, lenAt, resultsP, resultP, oneOr, reduceCtorEq, reduceIte, Nat.reduceEqDiff, Nat.reduceAdd, Nat.zero_add, Nat.reduceMul, Nat.reduceLT, Nat.reduceLeDiff, Int.reduceLT, Int.reduceNeg, Int.reduceLE, appendP, appendAt, letGo, setLoc, locVal, Int.reduceToNat, boxCells, und, TG, SE, h0, h1, h6, h7, hlen, hil, hix, hix1, c1', c2', d1', c4', c5', d3', w1, w2, w3, w4]
                exact ⟨_, rfl, by simp (maxSteps := 5000000) only [SA, SB, SD, R, guardAt, binP, intP, indexAddrP, elemsOf, readCells, lenP, lenAt, resultsP, resultP, oneOr, reduceCtorEq, reduceIte, Nat.reduceEqDiff, Nat.reduceAdd, Nat.zero_add, Nat.reduceMul, Nat.reduceLT, Nat.reduceLeDiff, Int.reduceLT, Int.reduceNeg, Int.reduceLE, appendP, appendAt, letGo, setLoc, locVal, Int.reduceToNat, boxCells, und], by simp (maxSteps := 5000000) only [SA, SB, SD, R, guardAt, binP, intP, indexAddrP, elemsOf, readCells, lenP, lenAt, resultsP, resultP, oneOr, reduceCtorEq, reduceIte, Nat.reduceEqDiff, Nat.reduceAdd, Nat.zero_add, Nat.reduceMul, Nat.reduceLT, Nat.reduceLeDiff, Int.reduceLT, Int.reduceNeg, Int.reduceLE, appendP, appendAt, letGo, setLoc, locVal, Int.reduceToNat, boxCells, und]⟩
          · have d1' : ¬ (i : Int) + 1 < (s.length : Int) := by omega
            have d3' : ¬ (i : Int) + 3 < (s.length : Int) := by omega
            rw [if_neg (fun h => d1 h.1), if_neg (fun h => by have := h.1; omega)]
            obtain ⟨ev, eo, so, co, ⟨hev, hco⟩, R⟩ := RULES CC; rw [← hev]
            simp only [fpart, part', Tryd.f82, Option.getD]
            simp (maxSteps := 5000000) only [SA, SB, SD, R, guardAt, binP, intP, indexAddrP, elemsOf, readCells, lenP, lenAt, resultsP, resultP, oneOr, reduceCtorEq, reduceIte, Nat.reduceEqDiff, Nat.reduceAdd, Nat.zero_add, Nat.reduceMul, Nat.reduceLT, Nat.reduceLeDiff, Int.reduceLT, Int.reduceNeg, Int.reduceLE, appendP, appendAt, letGo, setLoc, locVal, Int.reduceToNat, boxCells, und, TG, SE, h0, h1, h6, h7, hlen, hil, hix, c1', c2', d1', d3', w1, w2, w3, w4]
            exact ⟨_, rfl, by simp (maxSteps := 5000000) only [SA, SB, SD, R, guardAt, binP, intP, indexAddrP, elemsOf, readCells, lenP, lenAt, resultsP, resultP, oneOr, reduceCtorEq, reduceIte, Nat.reduceEqDiff, Nat.reduceAdd, Nat.zero_add, Nat.reduceMul, Nat.reduceLT, Nat.reduceLeDiff, Int.reduceLT, Int.reduceNeg, Int.reduceLE, appendP, appendAt, letGo, setLoc, locVal, Int.reduceToNat, boxCells, und], by simp (maxSteps := 5000000) only [SA, SB, SD, R, guardAt, binP, intP, indexAddrP, elemsOf, readCells, lenP, lenAt, resultsP, resultP, oneOr, reduceCtorEq, reduceIte, Nat.reduceEqDiff, Nat.reduceAdd, Nat.zero_add, Nat.reduceMul, Nat.reduceLT, Nat.reduceLeDiff, Int.reduceLT, Int.reduceNeg, Int.reduceLE, appendP, appendAt, letGo, setLoc, locVal, Int.reduceToNat, boxCells, und]⟩
        · exact absurd ⟨hlt, c1, c2⟩ D''
    · have hil : ¬ (i : Int) < (s.length : Int) := by omega
      rw [if_neg (fun h => hlt h.1)]
      obtain ⟨ev, eo, so, co, ⟨hev, hco⟩, R⟩ := RULES CC; rw [← hev]
      simp only [fpart, part', Tryd.f82, Option.getD]
      simp (maxSteps := 5000000) only [SA, SB, SD, R, guardAt, binP, intP, indexAddrP, elemsOf, readCells, lenP, lenAt, resultsP, resultP, oneOr, reduceCtorEq, reduceIte, Nat.reduceEqDiff, Nat.reduceAdd, Nat.zero_add, Nat.reduceMul, Nat.reduceLT, Nat.reduceLeDiff, Int.reduceLT, Int.reduceNeg, Int.reduceLE, appendP, appendAt, letGo, setLoc, locVal, Int.reduceToNat, boxCells, und, TG, SE, h0, h1, h6, h7, hlen, hil]
      exact ⟨_, rfl, by simp (maxSteps := 5000000) only [SA, SB, SD, R, guardAt, binP, intP, indexAddrP, elemsOf, readCells, lenP, lenAt, resultsP, resultP, oneOr, reduceCtorEq, reduceIte, Nat.reduceEqDiff, Nat.reduceAdd, Nat.zero_add, Nat.reduceMul, Nat.reduceLT, Nat.reduceLeDiff, Int.reduceLT, Int.reduceNeg, Int.reduceLE, appendP, appendAt, letGo, setLoc, locVal, Int.reduceToNat, boxCells, und, h0], by simp (maxSteps := 5000000) only [SA, SB, SD, R, guardAt, binP, intP, indexAddrP, elemsOf, readCells, lenP, lenAt, resultsP, resultP, oneOr, reduceCtorEq, reduceIte, Nat.reduceEqDiff, Nat.reduceAdd, Nat.zero_add, Nat.reduceMul, Nat.reduceLT, Nat.reduceLeDiff, Int.reduceLT, Int.reduceNeg, Int.reduceLE, appendP, appendAt, letGo, setLoc, locVal, Int.reduceToNat, boxCells, und, h1], by simp (maxSteps := 5000000) only [SA, SB, SD, R, guardAt, binP, intP, indexAddrP, elemsOf, readCells, lenP, lenAt, resultsP, resultP, oneOr, reduceCtorEq, reduceIte, Nat.reduceEqDiff, Nat.reduceAdd, Nat.zero_add, Nat.reduceMul, Nat.reduceLT, Nat.reduceLeDiff, Int.reduceLT, Int.reduceNeg, Int.reduceLE, appendP, appendAt, letGo, setLoc, locVal, Int.reduceToNat, boxCells, und, h6], by simp (maxSteps := 5000000) only [SA, SB, SD, R, guardAt, binP, intP, indexAddrP, elemsOf, readCells, lenP, lenAt, resultsP, resultP, oneOr, reduceCtorEq, reduceIte, Nat.reduceEqDiff, Nat.reduceAdd, Nat.zero_add, Nat.reduceMul, Nat.reduceLT, Nat.reduceLeDiff, Int.reduceLT, Int.reduceNeg, Int.reduceLE, appendP, appendAt, letGo, setLoc, locVal, Int.reduceToNat, boxCells, und, h7], hb, hi⟩
theorem ok_R04_Unquote : fnOK CC Tryd.f72 (Tryd.f72.body.getD .skip) = true := by kernel_rfl
theorem fat_R04_Unquote : CC.P.funcs[72]? = some Tryd.f72 := by kernel_rfl
/-- the specification's 'quoted' at the beginning -/
def quotedV : Option (List UInt8 × Nat) → PV
  | some (t, k) => .tup [.str t, .int .i64 (k : Int)]
  | none => .tup [.str [], .int .i64 (-1)]
theorem call_R04_quoted (s : List UInt8) (hs : s.length ≤ 40000) : callL CC 82 [.str s, .int .i64 0] [] = some (.ret (quotedV (quotedR s)), []) := by
  rw [callL_enter (fn := Tryd.f82) (c := Tryd.f82.body.getD .skip) rfl rfl fat_R04_quoted rfl ok_R04_quoted (Nat.le_of_ble_eq_true rfl)]
  have hlen := len_str s
  unfold quotedR
  by_cases hne : 0 < s.length
  · have hge : ¬ (0 : Int) ≥ (s.length : Int) := by omega
    have hix := ix_at s 0 hne
    have hix : indexV CC 9 (.str s) (.int .i64 0) = some (.int .u8 ((atL s 0 : Nat) : Int)) := hix
    have hh : s.head? = some 34 ↔ atL s 0 = 34 := by
      cases s with
      | nil => simp at hne
      | cons c r =>
        show some c = some 34 ↔ c.toNat = 34
        rw [Option.some_inj, ← UInt8.toNat_inj]
        exact Iff.rfl
    by_cases c1 : atL s 0 = 34
    · have c1' : (((atL s 0 : Nat) : Int) != 34) = false := by rw [c1]; rfl
      rw [if_pos (hh.2 c1)]
      have hloop := fun e => loop_R04_quoted _ rfl s hs (s.length + 1) 1 [] e (by omega) (by omega) (by simp)
      have hb0 : bys [] = [] := rfl
      rw [hb0] at hloop
      have hbd : ∀ b i, looseL (s.length + 1) s 1 [] = some (b, i) → True := fun _ _ _ => trivial
      have hcv1 := conv_b1
      have hcv2 := conv_b2
      have hquo := op_R04_Quote
      have hsl := fun (i : Nat) (h : i < s.length) => sl_str s 0 ((i : Int) + 1) (by omega) (by omega) (by omega)
      have w := fun (i : Nat) (h : i ≤ s.length) => wrap_i64 (n := (i : Int) + 1) ⟨by omega, by omega⟩
      generalize looseL (s.length + 1) s 1 [] = o at *
      obtain ⟨ev, eo, so, co, ⟨hev, hco⟩, R⟩ := RULES CC; rw [← hev]
      rw [← hev] at hloop
      rw [← hco] at hquo
      simp only [fpart, part', Tryd.f82, Option.getD] at hloop ⊢
      simp (maxSteps := 5000000) only [SA, SB, SD, R, guardAt, binP, intP, indexAddrP, elemsOf, readCells, lenP, lenAt, resultsP, resultP, oneOr, reduceCtorEq, reduceIte, Nat.reduceEqDiff, Nat.reduceAdd, Nat.zero_add, Nat.reduceMul, Nat.reduceLT, Nat.reduceLeDiff, Int.reduceLT, Int.reduceNeg, Int.reduceLE, appendP, appendAt, letGo, setLoc, locVal, Int.reduceToNat, boxCells, und, TG, SE, hlen, hge, hix, c1']
      generalize hE : ev _ _ = z
      have hP : PLo s o z := by
        rw [← hE]
        refine hloop _ ?_ ?_ ?_ ?_
        · simp (maxSteps := 5000000) only [SA, SB, SD, R, guardAt, binP, intP, indexAddrP, elemsOf, readCells, lenP, lenAt, resultsP, resultP, oneOr, reduceCtorEq, reduceIte, Nat.reduceEqDiff, Nat.reduceAdd, Nat.zero_add, Nat.reduceMul, Nat.reduceLT, Nat.reduceLeDiff, Int.reduceLT, Int.reduceNeg, Int.reduceLE, appendP, appendAt, letGo, setLoc, locVal, Int.reduceToNat, boxCells, und]
        · simp (maxSteps := 5000000) only [SA, SB, SD, R, guardAt, binP, intP, indexAddrP, elemsOf, readCells, lenP, lenAt, resultsP, resultP, oneOr, reduceCtorEq, reduceIte, Nat.reduceEqDiff, Nat.reduceAdd, Nat.zero_add, Nat.reduceMul, Nat.reduceLT, Nat.reduceLeDiff, Int.reduceLT, Int.reduceNeg, Int.reduceLE, appendP, appendAt, letGo, setLoc, locVal, Int.reduceToNat, boxCells, und]
        · simp (maxSteps := 5000000) only [SA, SB, SD, R, guardAt, binP, intP, indexAddrP, elemsOf, readCells, lenP, lenAt, resultsP, resultP, oneOr, reduceCtorEq, reduceIte, Nat.reduceEqDiff, Nat.reduceAdd, Nat.zero_add, Nat.reduceMul, Nat.reduceLT, Nat.reduceLeDiff, Int.reduceLT, Int.reduceNeg, Int.reduceLE, appendP, appendAt, letGo, setLoc, locVal, Int.reduceToNat, boxCells, und]
        · simp (maxSteps := 5000000) only [SA, SB, SD, R, guardAt, binP, intP, indexAddrP, elemsOf, readCells, lenP, lenAt, resultsP, resultP, oneOr, reduceCtorEq, reduceIte, Nat.reduceEqDiff, Nat.reduceAdd, Nat.zero_add, Nat.reduceMul, Nat.reduceLT, Nat.reduceLeDiff, Int.reduceLT, Int.reduceNeg, Int.reduceLE, appendP, appendAt, letGo, setLoc, locVal, Int.reduceToNat, boxCells, und]; rfl
      clear hE hloop
      match o, hP with
      | none, hP =>
        obtain ⟨e', he, h4, h5⟩ := hP
        subst he
        simp (maxSteps := 5000000) only [SA, SB, SD, R, guardAt, binP, intP, indexAddrP, elemsOf, readCells, lenP, lenAt, resultsP, resultP, oneOr, reduceCtorEq, reduceIte, Nat.reduceEqDiff, Nat.reduceAdd, Nat.zero_add, Nat.reduceMul, Nat.reduceLT, Nat.reduceLeDiff, Int.reduceLT, Int.reduceNeg, Int.reduceLE, appendP, appendAt, letGo, setLoc, locVal, Int.reduceToNat, boxCells, und, TG, SE, h4, h5]
        rfl
      | some (b, i), hP =>
        obtain ⟨e', he, h0, h1, h6, h7, hb, hi⟩ := hP
        subst he
        have hcv1 := hcv1 b
        have hcv2 := hcv2 b
        have hquo := hquo b (by omega)
        have w := w i hi
        by_cases d1 : i < s.length
        · have d1' : ¬ (i : Int) ≥ (s.length : Int) := by omega
          have hsl := hsl i d1
          have hto : ((i : Int) + 1).toNat = i + 1 := by omega
          rw [hto, show (0 : Int).toNat = 0 from rfl, List.drop_zero] at hsl
          have hne := strP_neq (quoteL b) (s.take (i + 1))
          by_cases d2 : quoteL b = s.take (i + 1)
          · have d2' : (quoteL b == s.take (i + 1)) = true := by simpa using d2
            rw [d2'] at hne
            have hcs : ((i + 1 : Nat) : Int) = (i : Int) + 1 := by omega
            simp only [ge_iff_le, d2, ne_eq, not_true_eq_false, or_false, if_neg (by omega : ¬ s.length ≤ i), quotedV, hcs]
            rw [d2] at hne hquo
            generalize s.take (i + 1) = u at *
            simp (maxSteps := 5000000) only [SA, SB, SD, R, guardAt, binP, intP, indexAddrP, elemsOf, readCells, lenP, lenAt, resultsP, resultP, oneOr, reduceCtorEq, reduceIte, Nat.reduceEqDiff, Nat.reduceAdd, Nat.zero_add, Nat.reduceMul, Nat.reduceLT, Nat.reduceLeDiff, Int.reduceLT, Int.reduceNeg, Int.reduceLE, appendP, appendAt, letGo, setLoc, locVal, Int.reduceToNat, boxCells, und, TG, SE, h0, h1, h6, h7, hlen, d1', hcv1, hcv2, hquo, hsl, w, hne, Bool.not_true]
          · have d2' : (quoteL b == s.take (i + 1)) = false := by simpa using d2
            rw [d2'] at hne
            simp only [ge_iff_le, ne_eq, d2, not_false_eq_true, or_true, if_true, quotedV]
            generalize s.take (i + 1) = u at *
            simp (maxSteps := 5000000) only [SA, SB, SD, R, guardAt, binP, intP, indexAddrP, elemsOf, readCells, lenP, lenAt, resultsP, resultP, oneOr, reduceCtorEq, reduceIte, Nat.reduceEqDiff, Nat.reduceAdd, Nat.zero_add, Nat.reduceMul, Nat.reduceLT, Nat.reduceLeDiff, Int.reduceLT, Int.reduceNeg, Int.reduceLE, appendP, appendAt, letGo, setLoc, locVal, Int.reduceToNat, boxCells, und, TG, SE, h0, h1, h6, h7, hlen, d1', hcv1, hcv2, hquo, hsl, w, hne, Bool.not_false]
        · have d1' : (i : Int) ≥ (s.length : Int) := by omega
          simp only [ge_iff_le, if_pos (Or.inl (by omega) : s.length ≤ i ∨ quoteL b ≠ s.take (i + 1)), quotedV]
          simp (maxSteps := 5000000) only [SA, SB, SD, R, guardAt, binP, intP, indexAddrP, elemsOf, readCells, lenP, lenAt, resultsP, resultP, oneOr, reduceCtorEq, reduceIte, Nat.reduceEqDiff, Nat.reduceAdd, Nat.zero_add, Nat.reduceMul, Nat.reduceLT, Nat.reduceLeDiff, Int.reduceLT, Int.reduceNeg, Int.reduceLE, appendP, appendAt, letGo, setLoc, locVal, Int.reduceToNat, boxCells, und, TG, SE, h0, h1, h6, h7, hlen, d1', hcv1, hcv2, hquo, w]
    · have c1' : (((atL s 0 : Nat) : Int) != 34) = true := by simp; omega
      rw [if_neg (fun h => c1 (hh.1 h))]
      unfold quotedV
      obtain ⟨ev, eo, so, co, ⟨hev, hco⟩, R⟩ := RULES CC; rw [← hev]
      simp only [fpart, part', Tryd.f82, Option.getD]
      simp (maxSteps := 5000000) only [SA, SB, SD, R, guardAt, binP, intP, indexAddrP, elemsOf, readCells, lenP, lenAt, resultsP, resultP, oneOr, reduceCtorEq, reduceIte, Nat.reduceEqDiff, Nat.reduceAdd, Nat.zero_add, Nat.reduceMul, Nat.reduceLT, Nat.reduceLeDiff, Int.reduceLT, Int.reduceNeg, Int.reduceLE, appendP, appendAt, letGo, setLoc, locVal, Int.reduceToNat, boxCells, und, TG, SE, hlen, hge, hix, c1']
  · have hge : (0 : Int) ≥ (s.length : Int) := by omega
    have hs0 : s = [] := List.length_eq_zero_iff.1 (by omega)
    rw [if_neg (by rw [hs0]; simp)]
    unfold quotedV
    obtain ⟨ev, eo, so, co, ⟨hev, hco⟩, R⟩ := RULES CC; rw [← hev]
    simp only [fpart, part', Tryd.f82, Option.getD]
    simp (maxSteps := 5000000) only [SA, SB, SD, R, guardAt, binP, intP, indexAddrP, elemsOf, readCells, lenP, lenAt, resultsP, resultP, oneOr, reduceCtorEq, reduceIte, Nat.reduceEqDiff, Nat.reduceAdd, Nat.zero_add, Nat.reduceMul, Nat.reduceLT, Nat.reduceLeDiff, Int.reduceLT, Int.reduceNeg, Int.reduceLE, appendP, appendAt, letGo, setLoc, locVal, Int.reduceToNat, boxCells, und, TG, SE, hlen, hge]
theorem op_R04_quoted (s : List UInt8) (hs : s.length ≤ 40000) (bx) : callOp CC (callL CC) 82 [.str s, .int .i64 0] bx = some (.ret (quotedV (quotedR s)), bx) := callOp_of rfl (by simp only [SA, Bool.and_true]) (call_R04_quoted s hs) (by cases quotedR s <;> rfl)
theorem call_R04_Unquote (s : List UInt8) (hs : s.length ≤ 40000) : callL CC 72 [.str s] [] = some (.ret (.tup [.str (unq s).1, .int .i64 (unq s).2]), []) := by
  rw [callL_enter (fn := Tryd.f72) (c := Tryd.f72.body.getD .skip) rfl rfl fat_R04_Unquote rfl ok_R04_Unquote (Nat.le_of_ble_eq_true rfl)]
  have hlen := len_str s
  have hq := op_R04_quoted s hs
  rw [← unqR_eq]
  unfold unqR
  generalize quotedR s = q at *
  cases q with
  | none =>
    have hm : (-1 : Int) < 0 := by decide
    unfold quotedV at hq
    obtain ⟨ev, eo, so, co, ⟨hev, hco⟩, R⟩ := RULES CC; rw [← hev]
    rw [← hco] at hq
    simp only [fpart, part', Tryd.f72, Option.getD]
    simp (maxSteps := 5000000) only [SA, SB, SD, R, guardAt, binP, intP, indexAddrP, elemsOf, readCells, lenP, lenAt, resultsP, resultP, oneOr, reduceCtorEq, reduceIte, Nat.reduceEqDiff, Nat.reduceAdd, Nat.zero_add, Nat.reduceMul, Nat.reduceLT, Nat.reduceLeDiff, Int.reduceLT, Int.reduceNeg, Int.reduceLE, appendP, appendAt, letGo, setLoc, locVal, Int.reduceToNat, boxCells, und, TG, SE, hlen, hq, hm]
  | some x =>
    obtain ⟨t, k⟩ := x
    unfold quotedV at hq
    simp only at hq ⊢
    have hqt := len_str t
    have hk0 : ¬ (k : Int) < 0 := by omega
    by_cases c2 : k = s.length
    · have c2' : ((k : Int) != (s.length : Int)) = false := by simp [c2]
      rw [if_neg (fun h => h c2)]
      by_cases c3 : t.length > 60
      · have c3' : (t.length : Int) > 60 := by omega
        rw [if_pos c3]
        obtain ⟨ev, eo, so, co, ⟨hev, hco⟩, R⟩ := RULES CC; rw [← hev]
        rw [← hco] at hq
        simp only [fpart, part', Tryd.f72, Option.getD]
        simp (maxSteps := 5000000) only [SA, SB, SD, R, guardAt, binP, intP, indexAddrP, elemsOf, readCells, lenP, lenAt, resultsP, resultP, oneOr, reduceCtorEq, reduceIte, Nat.reduceEqDiff, Nat.reduceAdd, Nat.zero_add, Nat.reduceMul, Nat.reduceLT, Nat.reduceLeDiff, Int.reduceLT, Int.reduceNeg, Int.reduceLE, appendP, appendAt, letGo, setLoc, locVal, Int.reduceToNat, boxCells, und, TG, SE, hlen, hqt, hq, hk0, c2', c3']
      · have c3' : ¬ (t.length : Int) > 60 := by omega
        rw [if_neg c3]
        obtain ⟨ev, eo, so, co, ⟨hev, hco⟩, R⟩ := RULES CC; rw [← hev]
        rw [← hco] at hq
        simp only [fpart, part', Tryd.f72, Option.getD]
        simp (maxSteps := 5000000) only [SA, SB, SD, R, guardAt, binP, intP, indexAddrP, elemsOf, readCells, lenP, lenAt, resultsP, resultP, oneOr, reduceCtorEq, reduceIte, Nat.reduceEqDiff, Nat.reduceAdd, Nat.zero_add, Nat.reduceMul, Nat.reduceLT, Nat.reduceLeDiff, Int.reduceLT, Int.reduceNeg, Int.reduceLE, appendP, appendAt, letGo, setLoc, locVal, Int.reduceToNat, boxCells, und, TG, SE, hlen, hqt, hq, hk0, c2', c3']
    · have c2' : ((k : Int) != (s.length : Int)) = true := by simp; omega
      rw [if_pos c2]
      obtain ⟨ev, eo, so, co, ⟨hev, hco⟩, R⟩ := RULES CC; rw [← hev]
      rw [← hco] at hq
      simp only [fpart, part', Tryd.f72, Option.getD]
      simp (maxSteps := 5000000) only [SA, SB, SD, R, guardAt, binP, intP, indexAddrP, elemsOf, readCells, lenP, lenAt, resultsP, resultP, oneOr, reduceCtorEq, reduceIte, Nat.reduceEqDiff, Nat.reduceAdd, Nat.zero_add, Nat.reduceMul, Nat.reduceLT, Nat.reduceLeDiff, Int.reduceLT, Int.reduceNeg, Int.reduceLE, appendP, appendAt, letGo, setLoc, locVal, Int.reduceToNat, boxCells, und, TG, SE, hlen, hqt, hq, hk0, c2']
theorem op_R04_Unquote (s : List UInt8) (hs : s.length ≤ 40000) (bx) : callOp CC (callL CC) 72 [.str s] bx = some (.ret (.tup [.str (unq s).1, .int .i64 (unq s).2]), bx) := callOp_of rfl (by simp only [SA, Bool.and_true]) (call_R04_Unquote s hs) rfl
end Go.HH
