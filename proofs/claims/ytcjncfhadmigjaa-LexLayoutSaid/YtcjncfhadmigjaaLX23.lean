/-
  Quoted strings: what is quoted is read again, and nothing else; plain laws.
-/
import Derived.Test.YtcjncfhadmigjaaLX6
namespace Go.HH
open Go Go.Proofs
set_option maxRecDepth 100000
set_option linter.unusedSimpArgs false
set_option linter.unusedVariables false
/-- the quoted form of a text -/
def quoteL (s : List UInt8) : List UInt8 := 34 :: (s.flatMap formL ++ [34])
theorem form_casesF : ∀ n : _root_.Fin 256, ((n.val = 34 ∨ n.val = 92) ∧ formN n.val = [92, UInt8.ofNat n.val]) ∨ (n.val ≠ 34 ∧ n.val ≠ 92 ∧ formN n.val = [UInt8.ofNat n.val]) ∨ (formN n.val = [92, 120, hexd (n.val / 16), hexd (n.val % 16)] ∧ 0 ≤ hexV (hexd (n.val / 16)) ∧ 0 ≤ hexV (hexd (n.val % 16)) ∧ hex2 (hexd (n.val / 16)) (hexd (n.val % 16)) = n.val) := by decide +kernel
theorem form_cases (c : UInt8) : ((c.toNat = 34 ∨ c.toNat = 92) ∧ formL c = [92, c]) ∨ (c.toNat ≠ 34 ∧ c.toNat ≠ 92 ∧ formL c = [c]) ∨ (∃ a b, formL c = [92, 120, a, b] ∧ 0 ≤ hexV a ∧ 0 ≤ hexV b ∧ hex2 a b = c.toNat) := by
  have h := form_casesF ⟨c.toNat, UInt8.toNat_lt c⟩
  simp only [UInt8.ofNat_toNat] at h
  rcases h with h | h | h
  · exact .inl h
  · exact .inr (.inl h)
  · exact .inr (.inr ⟨_, _, h⟩)
theorem nextL_form (c : UInt8) (r : List UInt8) : nextL (formL c ++ r) = (c.toNat, (formL c).length) := by
  have e92 : (92 : UInt8).toNat = 92 := rfl
  have e120 : (120 : UInt8).toNat = 120 := rfl
  rcases form_cases c with ⟨h1, h2⟩ | ⟨h1, h2, h3⟩ | ⟨a, b, h1, h2, h3, h4⟩
  · rw [h2]
    show nextL (92 :: c :: r) = _
    unfold nextL
    simp only [e92]
    rw [if_neg (by decide), if_neg (by decide), if_pos h1]
    rfl
  · rw [h3]
    show nextL (c :: r) = _
    unfold nextL
    simp only
    rw [if_neg h1, if_pos h2, if_pos h3]
    rfl
  · have h5 : formN (hex2 a b) = [92, 120, a, b] := by rw [h4]; exact h1
    rw [h1]
    show nextL (92 :: 120 :: a :: b :: r) = _
    unfold nextL
    simp only [e92, e120]
    rw [if_neg (by decide), if_neg (by decide), if_neg (by decide), if_pos ⟨trivial, h2, h3, h5⟩, h4]
    rfl
theorem nextL_sound (x : List UInt8) (h : (nextL x).2 ≠ 0) : x.take (nextL x).2 = formN (nextL x).1 := by
  match x, h with
  | [], h => exact absurd rfl h
  | c :: r, h =>
    unfold nextL at h ⊢
    simp only at h ⊢
    by_cases c1 : c.toNat = 34
    · rw [if_pos c1] at h; exact absurd rfl h
    · rw [if_neg c1] at h ⊢
      by_cases c2 : c.toNat ≠ 92
      · rw [if_pos c2] at h ⊢
        by_cases c3 : formL c = [c]
        · rw [if_pos c3]; exact c3.symm
        · rw [if_neg c3] at h; exact absurd rfl h
      · rw [if_neg c2] at h ⊢
        have e92 : c = 92 := by rw [← UInt8.toNat_inj]; show _ = 92; omega
        match r, h with
        | [], h => exact absurd rfl h
        | d :: r, h =>
          simp only at h ⊢
          by_cases c3 : d.toNat = 34 ∨ d.toNat = 92
          · rw [if_pos c3]
            show [c, d] = formN d.toNat
            unfold formN
            rw [if_pos c3, UInt8.ofNat_toNat, e92]
          · rw [if_neg c3] at h ⊢
            match r, h with
            | [], h => exact absurd rfl h
            | [_], h => exact absurd rfl h
            | x :: y :: r, h =>
              simp only at h ⊢
              by_cases c4 : d.toNat = 120 ∧ 0 ≤ hexV x ∧ 0 ≤ hexV y ∧ formN (hex2 x y) = [c, d, x, y]
              · rw [if_pos c4]; exact c4.2.2.2.symm
              · rw [if_neg c4] at h; exact absurd rfl h
theorem formL_pos (c : UInt8) : 0 < (formL c).length := by
  rcases form_cases c with ⟨h1, h2⟩ | ⟨h1, h2, h3⟩ | ⟨a, b, h1, h2, h3, h4⟩
  · rw [h2]; simp
  · rw [h3]; simp
  · rw [h1]; simp
theorem flat_len (t : List UInt8) : t.length ≤ (t.flatMap formL).length := by
  induction t with
  | nil => exact Nat.le_refl _
  | cons c t ih => have := formL_pos c; rw [List.flatMap_cons, List.length_append, List.length_cons]; omega
theorem unqL_step (m : Nat) (s : List UInt8) (h : (nextL s).2 ≠ 0) : unqL (m + 1) s = (unqL m (s.drop (nextL s).2)).map fun r => (UInt8.ofNat (nextL s).1 :: r.1, (nextL s).2 + r.2) := by
  match s, h with
  | [], h => exact absurd rfl h
  | c :: r, h =>
    have hun : unqL (m + 1) (c :: r) = if c.toNat = 34 then some ([], 0) else if (nextL (c :: r)).2 = 0 then none else (unqL m ((c :: r).drop (nextL (c :: r)).2)).map fun x => (UInt8.ofNat (nextL (c :: r)).1 :: x.1, (nextL (c :: r)).2 + x.2) := rfl
    have c1 : c.toNat ≠ 34 := fun c1 => by
      have e : nextL (c :: r) = (0, 0) := by unfold nextL; simp only; rw [if_pos c1]
      rw [e] at h
      exact h rfl
    rw [hun, if_neg c1, if_neg h]
theorem unqL_sound : ∀ (m : Nat) (s t : List UInt8) (k : Nat), unqL m s = some (t, k) → ∃ r, s = t.flatMap formL ++ 34 :: r ∧ k = (t.flatMap formL).length
  | 0, _, _, _, h => by cases h
  | m + 1, [], _, _, h => by cases h
  | m + 1, c :: r, t, k, h => by
    have hun : unqL (m + 1) (c :: r) = if c.toNat = 34 then some ([], 0) else if (nextL (c :: r)).2 = 0 then none else (unqL m ((c :: r).drop (nextL (c :: r)).2)).map fun x => (UInt8.ofNat (nextL (c :: r)).1 :: x.1, (nextL (c :: r)).2 + x.2) := rfl
    rw [hun] at h
    split at h
    · rename_i c1
      have e34 : c = 34 := by rw [← UInt8.toNat_inj]; exact c1
      injection h with h
      injection h with h1 h2
      subst h1 h2 e34
      exact ⟨r, rfl, rfl⟩
    · split at h
      · cases h
      · rename_i c1 c2
        obtain ⟨⟨t', k'⟩, h1, h2⟩ := Option.map_eq_some_iff.1 h
        injection h2 with h2 h3
        subst h2 h3
        obtain ⟨r', h4, h5⟩ := unqL_sound m _ _ _ h1
        have h6 := nextL_sound _ c2
        have h7 := nextL_lt (c :: r)
        have hv : formL (UInt8.ofNat (nextL (c :: r)).1) = formN (nextL (c :: r)).1 := by unfold formL; rw [UInt8.toNat_ofNat', Nat.mod_eq_of_lt h7.1]
        refine ⟨r', ?_, ?_⟩
        · rw [List.flatMap_cons, hv, ← h6, List.append_assoc, ← h4, List.take_append_drop]
        · rw [List.flatMap_cons, List.length_append, hv, ← h6, List.length_take, ← h5]; omega
theorem unqL_complete : ∀ (t : List UInt8) (m : Nat) (r : List UInt8), t.length < m → unqL m (t.flatMap formL ++ 34 :: r) = some (t, (t.flatMap formL).length)
  | _, 0, _, h => by omega
  | [], m + 1, r, _ => rfl
  | c :: t, m + 1, r, h => by
    have hn := nextL_form c (t.flatMap formL ++ 34 :: r)
    have hp := formL_pos c
    rw [List.flatMap_cons, List.append_assoc, unqL_step m _ (by rw [hn]; simp only; omega), hn]
    simp only
    rw [List.drop_left, unqL_complete t m r (by simp only [List.length_cons] at h; omega), UInt8.ofNat_toNat, List.length_append]
    rfl
theorem quoteL_length (t : List UInt8) : (quoteL t).length = (t.flatMap formL).length + 2 := by unfold quoteL; simp
theorem quotedL_quote (t r : List UInt8) : quotedL (quoteL t ++ r) = (t, (quoteL t).length) := by
  have e : quoteL t ++ r = 34 :: (t.flatMap formL ++ 34 :: r) := by unfold quoteL; simp
  have hl := flat_len t
  unfold quotedL
  rw [e, if_pos (show (34 :: (t.flatMap formL ++ 34 :: r) : List UInt8).head? = some 34 from rfl)]
  show (match unqL _ (t.flatMap formL ++ 34 :: r) with
    | some (t, k) => (t, k + 2)
    | none => ([], 0)) = _
  rw [unqL_complete t _ r (by simp only [List.length_cons, List.length_append]; omega), quoteL_length]
theorem quotedL_sound (s : List UInt8) (h : (quotedL s).2 ≠ 0) : ∃ t r, s = quoteL t ++ r ∧ quotedL s = (t, (quoteL t).length) := by
  have h' := h
  unfold quotedL at h'
  split at h'
  · rename_i hh
    match s, hh with
    | c :: s', hh =>
      have e : c = 34 := Option.some.inj hh
      subst e
      split at h'
      · rename_i t k hu
        obtain ⟨r, h1, h2⟩ := unqL_sound _ _ _ _ hu
        have e : (34 : UInt8) :: s' = quoteL t ++ r := by
          have : s' = t.flatMap formL ++ 34 :: r := h1
          rw [this]
          unfold quoteL
          simp
        exact ⟨t, r, e, by rw [e, quotedL_quote]⟩
      · exact absurd rfl h'
  · exact absurd rfl h'
theorem unq_quote (t : List UInt8) : unq (quoteL t) = if t.length > 60 then ([], 3) else (t, 0) := by
  have h := quotedL_quote t []
  rw [List.append_nil] at h
  have h2 := quoteL_length t
  unfold unq
  rw [h]
  simp only
  rw [if_neg (by omega)]
theorem unq_else (s : List UInt8) (h : ∀ t, s ≠ quoteL t) : unq s = ([], 4) := by
  unfold unq
  split
  · rfl
  · rename_i hc
    exfalso
    obtain ⟨t, r, h1, h2⟩ := quotedL_sound s (fun e => hc (.inl e))
    have h3 : (quotedL s).2 = s.length := Decidable.byContradiction fun e => hc (.inr e)
    rw [h2] at h3
    simp only at h3
    rw [h1, List.length_append] at h3
    have : r = [] := List.length_eq_zero_iff.1 (by omega)
    subst this
    rw [List.append_nil] at h1
    exact h t h1
theorem quoteL_inj {t u : List UInt8} (h : quoteL t = quoteL u) : t = u := by
  have h1 := quotedL_quote t []
  have h2 := quotedL_quote u []
  rw [h, h2] at h1
  injection h1 with h1
  exact h1.symm
/-- a loose reading of a text in quotes, from an offset on: the bytes so far, and where it ends -/
def looseL : Nat → List UInt8 → Nat → List UInt8 → Option (List UInt8 × Nat)
  | 0, _, _, _ => none
  | m + 1, s, i, b => if i < s.length ∧ atL s i ≠ 34 then
      (if atL s i ≠ 92 then looseL m s (i + 1) (b ++ [UInt8.ofNat (atL s i)])
       else if i + 1 < s.length ∧ (atL s (i + 1) = 34 ∨ atL s (i + 1) = 92) then looseL m s (i + 2) (b ++ [UInt8.ofNat (atL s (i + 1))])
       else if i + 3 < s.length ∧ atL s (i + 1) = 120 ∧ 0 ≤ hexN (atL s (i + 2)) ∧ 0 ≤ hexN (atL s (i + 3)) then looseL m s (i + 4) (b ++ [UInt8.ofNat (hexN (atL s (i + 2)) * 16 + hexN (atL s (i + 3))).toNat])
       else none)
    else some (b, i)
theorem looseL_succ (m : Nat) (s : List UInt8) (i : Nat) (b : List UInt8) : looseL (m + 1) s i b = if i < s.length ∧ atL s i ≠ 34 then
      (if atL s i ≠ 92 then looseL m s (i + 1) (b ++ [UInt8.ofNat (atL s i)])
       else if i + 1 < s.length ∧ (atL s (i + 1) = 34 ∨ atL s (i + 1) = 92) then looseL m s (i + 2) (b ++ [UInt8.ofNat (atL s (i + 1))])
       else if i + 3 < s.length ∧ atL s (i + 1) = 120 ∧ 0 ≤ hexN (atL s (i + 2)) ∧ 0 ≤ hexN (atL s (i + 3)) then looseL m s (i + 4) (b ++ [UInt8.ofNat (hexN (atL s (i + 2)) * 16 + hexN (atL s (i + 3))).toNat])
       else none)
    else some (b, i) := rfl
theorem atL_drop (s : List UInt8) (i j : Nat) : atL s (i + j) = atL (s.drop i) j := by unfold atL; rw [List.getElem?_drop]
theorem loose_form (s : List UInt8) (m i : Nat) (b : List UInt8) (c : UInt8) (r : List UInt8) (h : s.drop i = formL c ++ r) : looseL (m + 1) s i b = looseL m s (i + (formL c).length) (b ++ [c]) := by
  have hlen : (s.drop i).length = (formL c ++ r).length := by rw [h]
  rw [List.length_drop, List.length_append] at hlen
  have a0 := atL_drop s i 0
  have a1 := atL_drop s i 1
  have a2 := atL_drop s i 2
  have a3 := atL_drop s i 3
  rw [h] at a0 a1 a2 a3
  rw [Nat.add_zero] at a0
  rw [looseL_succ]
  rcases form_cases c with ⟨h1, h2⟩ | ⟨h1, h2, h3⟩ | ⟨x, y, h1, h2, h3, h4⟩
  · rw [h2] at a0 a1 hlen ⊢
    have a0 : atL s i = 92 := a0
    have a1 : atL s (i + 1) = c.toNat := a1
    have hlen : s.length - i = 2 + r.length := hlen
    rw [a0, a1, if_pos ⟨by omega, by decide⟩, if_neg (by decide), if_pos ⟨by omega, h1⟩, UInt8.ofNat_toNat]
    rfl
  · rw [h3] at a0 hlen ⊢
    have a0 : atL s i = c.toNat := a0
    have hlen : s.length - i = 1 + r.length := hlen
    rw [a0, if_pos ⟨by omega, h1⟩, if_pos h2, UInt8.ofNat_toNat]
    rfl
  · rw [h1] at a0 a1 a2 a3 hlen ⊢
    have a0 : atL s i = 92 := a0
    have a1 : atL s (i + 1) = 120 := a1
    have a2 : atL s (i + 2) = x.toNat := a2
    have a3 : atL s (i + 3) = y.toNat := a3
    have hlen : s.length - i = 4 + r.length := hlen
    have hx : hexN x.toNat = hexV x := rfl
    have hy : hexN y.toNat = hexV y := rfl
    have hz : (hexV x * 16 + hexV y).toNat = hex2 x y := rfl
    rw [a0, a1, a2, a3, hx, hy, hz, h4, if_pos ⟨by omega, by decide⟩, if_neg (by decide), if_neg (by omega), if_pos ⟨by omega, rfl, h2, h3⟩, UInt8.ofNat_toNat]
    rfl
theorem loose_quote (s : List UInt8) : ∀ (t : List UInt8) (m i : Nat) (b r : List UInt8), t.length < m → s.drop i = t.flatMap formL ++ 34 :: r → looseL m s i b = some (b ++ t, i + (t.flatMap formL).length)
  | _, 0, _, _, _, h, _ => by omega
  | [], m + 1, i, b, r, _, h => by
    have a0 := atL_drop s i 0
    rw [h, Nat.add_zero] at a0
    have a0 : atL s i = 34 := a0
    rw [looseL_succ, a0, if_neg (fun h => h.2 rfl), List.append_nil]
    rfl
  | c :: t, m + 1, i, b, r, hm, h => by
    rw [List.flatMap_cons, List.append_assoc] at h
    rw [loose_form s m i b c _ h, loose_quote s t m (i + (formL c).length) (b ++ [c]) r (by simp only [List.length_cons] at hm; omega) (by rw [← List.drop_drop, h, List.drop_left]), List.flatMap_cons, List.length_append, List.append_assoc, Nat.add_assoc]
    rfl
/-- what the specification's 'quoted' says of a text from its beginning -/
def quotedR (s : List UInt8) : Option (List UInt8 × Nat) := if s.head? = some 34 then (match looseL (s.length + 1) s 1 [] with
    | some (b, i) => if i ≥ s.length ∨ quoteL b ≠ s.take (i + 1) then none else some (b, i + 1)
    | none => none) else none
def unqR (s : List UInt8) : List UInt8 × Int := match quotedR s with
  | none => ([], 4)
  | some (t, k) => if k ≠ s.length then ([], 4) else if t.length > 60 then ([], 3) else (t, 0)
theorem quotedR_quote (t r : List UInt8) : quotedR (quoteL t ++ r) = some (t, (quoteL t).length) := by
  have e : quoteL t ++ r = 34 :: (t.flatMap formL ++ 34 :: r) := by unfold quoteL; simp
  have hl := flat_len t
  have hq := quoteL_length t
  unfold quotedR
  rw [if_pos (by rw [e]; rfl), loose_quote (quoteL t ++ r) t _ 1 [] r (by rw [List.length_append]; omega) (by rw [e]; rfl), List.nil_append]
  simp only
  rw [show 1 + (t.flatMap formL).length + 1 = (quoteL t).length from by omega, List.take_left, if_neg (fun h => h.elim (fun h => by rw [List.length_append] at h; omega) (fun h => h rfl))]
theorem quotedR_sound (s t : List UInt8) (k : Nat) (h : quotedR s = some (t, k)) : ∃ r, s = quoteL t ++ r ∧ k = (quoteL t).length := by
  unfold quotedR at h
  split at h
  · split at h
    · rename_i b i hb
      split at h
      · cases h
      · rename_i hc
        injection h with h
        injection h with h1 h2
        subst h1 h2
        have h1 : i < s.length := by omega
        have h2 : quoteL b = s.take (i + 1) := Decidable.byContradiction fun e => hc (.inr e)
        refine ⟨s.drop (i + 1), by rw [h2, List.take_append_drop], by rw [h2, List.length_take]; omega⟩
    · cases h
  · cases h
theorem unqR_eq (s : List UInt8) : unqR s = unq s := by
  by_cases h : ∃ t, s = quoteL t
  · obtain ⟨t, rfl⟩ := h
    have h1 := quotedR_quote t []
    rw [List.append_nil] at h1
    unfold unqR
    rw [h1, unq_quote]
    simp
  · rw [unq_else s (fun t e => h ⟨t, e⟩)]
    unfold unqR
    split
    · rfl
    · rename_i t k hk
      obtain ⟨r, h1, h2⟩ := quotedR_sound s t k hk
      rw [if_pos]
      intro e
      rw [h1, List.length_append] at e
      have : r = [] := List.length_eq_zero_iff.1 (by omega)
      subst this
      rw [List.append_nil] at h1
      exact h ⟨t, h1⟩
end Go.HH
