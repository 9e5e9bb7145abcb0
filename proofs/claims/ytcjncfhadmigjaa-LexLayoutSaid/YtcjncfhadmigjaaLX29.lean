/-
  Tokens: what is laid out is read again; plain laws.
-/
import Derived.Test.YtcjncfhadmigjaaLX25
import Derived.Test.YtcjncfhadmigjaaLX23
namespace Go.HH
open Go Go.Proofs
set_option maxRecDepth 100000
set_option linter.unusedSimpArgs false
set_option linter.unusedVariables false
def wordW (w : List UInt8) : Prop := ∃ c r, w = c :: r ∧ sm c.toNat = true ∧ ∀ b ∈ r, pt b.toNat = true
def numW (w : List UInt8) : Prop := w ≠ [] ∧ (∀ b ∈ w, dg b.toNat = true) ∧ (numR w 0).isSome = true
def opW (w : List UInt8) : Prop := ∃ c, (w = [c] ∧ op1 c.toNat = true) ∨ (w = [c, 61] ∧ op2 c.toNat = true)
def goodT (x : Tk) : Prop := (x.1 = 1 ∧ wordW x.2.1) ∨ (x.1 = 2 ∧ numW x.2.1) ∨ (x.1 = 3 ∧ x.2.1.length ≤ 60) ∨ (x.1 = 4 ∧ opW x.2.1)
def formT (x : Tk) : List UInt8 := if x.1 = 3 then quoteL x.2.1 else x.2.1
def hashB (x : Tk) : Bool := x.1 == 4 && x.2.1 == [35]
/-- the tokens laid out, with a blank ahead or not; a blank at the end -/
def layE : List Tk → Bool → List UInt8
  | [], b => if b then [32] else []
  | x :: r, b => (if b then [32] else []) ++ (formT x ++ layE r (!hashB x))
def chainT : List Tk → Prop
  | [] => True
  | x :: r => goodT x ∧ (hashB x = true → ∃ y r', r = y :: r' ∧ y.1 = 2) ∧ chainT r
theorem unq_ok {s : List UInt8} (h : (unq s).2 = 0) : s = quoteL (unq s).1 ∧ (unq s).1.length ≤ 60 := by
  by_cases hq : ∃ t, s = quoteL t
  · obtain ⟨t, rfl⟩ := hq
    rw [unq_quote] at h ⊢
    split at h
    · cases h
    · rename_i hc
      rw [if_neg hc]
      exact ⟨rfl, Nat.le_of_not_lt hc⟩
  · rw [unq_else s (fun t e => hq ⟨t, e⟩)] at h
    cases h
theorem tw_append {p : UInt8 → Bool} : ∀ (w R : List UInt8), (∀ b ∈ w, p b = true) → (∀ c r, R = c :: r → p c = false) → (w ++ R).takeWhile p = w
  | [], [], _, _ => rfl
  | [], c :: r, _, h => by
    show (c :: r).takeWhile p = []
    rw [List.takeWhile_cons, h c r rfl]
    rfl
  | b :: w, R, h1, h2 => by
    rw [List.cons_append, List.takeWhile_cons, h1 b (by simp), if_pos rfl, tw_append w R (fun x hx => h1 x (by simp [hx])) h2]
theorem runL_take {p : Nat → Bool} {t : List UInt8} {j : Nat} {w R : List UInt8} (h : t.drop j = w ++ R) (h1 : ∀ b ∈ w, p b.toNat = true) (h2 : ∀ c r, R = c :: r → p c.toNat = false) : runL p t j = j + w.length := by
  unfold runL
  rw [h, tw_append w R h1 h2]
theorem drop_len {t : List UInt8} {j : Nat} {w : List UInt8} (h : t.drop j = w) (hw : w ≠ []) : t.length = j + w.length ∧ j < t.length := by
  have h1 : (t.drop j).length = w.length := by rw [h]
  rw [List.length_drop] at h1
  have h2 : 0 < w.length := List.length_pos_iff.2 hw
  omega
theorem take_drop_of {t : List UInt8} {j : Nat} {w R : List UInt8} (h : t.drop j = w ++ R) : (t.take (j + w.length)).drop j = w := by
  rw [List.drop_take, Nat.add_sub_cancel_left, h, List.take_left]
theorem atL_of {t : List UInt8} {j : Nat} {c : UInt8} {r : List UInt8} (h : t.drop j = c :: r) : atL t j = c.toNat := by
  have := atL_drop t j 0
  rw [Nat.add_zero, h] at this
  exact this
def hd0 : List UInt8 → Nat
  | [] => 0
  | d :: _ => d.toNat
theorem atL_of1 {t : List UInt8} {j : Nat} {c : UInt8} {R : List UInt8} (h : t.drop j = c :: R) : atL t (j + 1) = hd0 R := by
  have := atL_drop t j 1
  rw [h] at this
  rw [this]
  cases R <;> rfl
theorem eQ_form {s : List UInt8} {i : Nat} {c : UInt8} {r : List UInt8} (h : s.drop i = formL c ++ r) : eQ s i = eQ s (i + (formL c).length) := by
  have hlen : (s.drop i).length = (formL c ++ r).length := by rw [h]
  rw [List.length_drop, List.length_append] at hlen
  have a0 := atL_drop s i 0
  have a2 := atL_drop s i 2
  have a3 := atL_drop s i 3
  rw [h] at a0 a2 a3
  rw [Nat.add_zero] at a0
  rcases form_cases c with ⟨h1, h2⟩ | ⟨h1, h2, h3⟩ | ⟨x, y, h1, h2, h3, h4⟩
  · rw [h2] at a0 hlen ⊢
    have a0 : atL s i = 92 := a0
    have hlen : s.length - i = 2 + r.length := hlen
    rw [eQ_eq, a0, if_pos ⟨by omega, by decide⟩, if_pos rfl]
    rfl
  · rw [h3] at a0 hlen ⊢
    have a0 : atL s i = c.toNat := a0
    have hlen : s.length - i = 1 + r.length := hlen
    rw [eQ_eq, a0, if_pos ⟨by omega, h1⟩, if_neg h2]
    rfl
  · rw [h1] at a0 a2 a3 hlen ⊢
    have a0 : atL s i = 92 := a0
    have a2 : atL s (i + 2) = x.toNat := a2
    have a3 : atL s (i + 3) = y.toNat := a3
    have hlen : s.length - i = 4 + r.length := hlen
    have ne : ∀ z : UInt8, 0 ≤ hexV z → z.toNat ≠ 34 ∧ z.toNat ≠ 92 := fun z hz => by
      unfold hexV hexN at hz
      split at hz
      · omega
      · split at hz
        · omega
        · omega
    have nx := ne x h2
    have ny := ne y h3
    rw [eQ_eq, a0, if_pos ⟨by omega, by decide⟩, if_pos rfl, eQ_eq, a2, if_pos ⟨by omega, nx.1⟩, if_neg nx.2, show i + 2 + 1 = i + 3 from rfl, eQ_eq, a3, if_pos ⟨by omega, ny.1⟩, if_neg ny.2]
    rfl
theorem eQ_quote (s : List UInt8) : ∀ (t : List UInt8) (i : Nat) (r : List UInt8), s.drop i = t.flatMap formL ++ 34 :: r → eQ s i = i + (t.flatMap formL).length
  | [], i, r, h => by
    have h : s.drop i = 34 :: r := h
    rw [eQ_eq, atL_of h, if_neg (fun h => h.2 rfl)]
    rfl
  | c :: t, i, r, h => by
    rw [List.flatMap_cons, List.append_assoc] at h
    rw [eQ_form h, eQ_quote s t (i + (formL c).length) r (by rw [← List.drop_drop, h, List.drop_left]), List.flatMap_cons, List.length_append, Nat.add_assoc]
theorem layE_cons (x : Tk) (r : List Tk) (b : Bool) : layE (x :: r) b = (if b then [32] else []) ++ (formT x ++ layE r (!hashB x)) := rfl
/-- how the rest goes on behind a token: with a blank, or not at all, or with a digit behind # -/
theorem layE_head (x : Tk) (r : List Tk) (hx : hashB x = true → ∃ y r', r = y :: r' ∧ y.1 = 2) (hr : chainT r) : (hashB x = false ∧ ∃ q, layE r (!hashB x) = 32 :: q) ∨ (hashB x = true ∧ ∃ d q, layE r (!hashB x) = d :: q ∧ dg d.toNat = true) := by
  cases hh : hashB x with
  | false =>
    refine .inl ⟨rfl, ?_⟩
    cases r with
    | nil => exact ⟨[], rfl⟩
    | cons y r => exact ⟨_, rfl⟩
  | true =>
    obtain ⟨y, r', rfl, hy⟩ := hx hh
    refine .inr ⟨rfl, ?_⟩
    obtain ⟨hg, _⟩ := hr
    rcases hg with ⟨h, _⟩ | ⟨h, hn⟩ | ⟨h, _⟩ | ⟨h, _⟩
    · omega
    · obtain ⟨h1, h2, _⟩ := hn
      have e : formT y = y.2.1 := by unfold formT; rw [if_neg (by omega)]
      rw [layE_cons, e]
      cases hw : y.2.1 with
      | nil => exact absurd hw h1
      | cons d w => exact ⟨d, w ++ layE r' (!hashB y), rfl, h2 d (by rw [hw]; simp)⟩
    · omega
    · omega
theorem sm_pt {n : Nat} (h : sm n = true) : pt n = true := by unfold pt; rw [h]; rfl
theorem formT_ne {x : Tk} (hg : goodT x) : formT x ≠ [] := by
  unfold formT
  rcases hg with ⟨h, c, r, hw, _⟩ | ⟨h, hn⟩ | ⟨h, _⟩ | ⟨h, c, hw | hw⟩
  · rw [if_neg (by omega), hw]; simp
  · rw [if_neg (by omega)]; exact hn.1
  · rw [if_pos h]; unfold quoteL; simp
  · rw [if_neg (by omega), hw.1]; simp
  · rw [if_neg (by omega), hw.1]; simp
theorem op1_ne : ∀ n : _root_.Fin 256, op1 n.val = true → sm n.val = false ∧ dg n.val = false ∧ n.val ≠ 34 ∧ n.val ≠ 32 ∧ n.val ≠ 9 ∧ n.val ≠ 10 := by decide +kernel
theorem op2_ne : ∀ n : _root_.Fin 256, op2 n.val = true → sm n.val = false ∧ dg n.val = false ∧ n.val ≠ 34 ∧ n.val ≠ 32 ∧ n.val ≠ 9 ∧ n.val ≠ 10 ∧ n.val ≠ 35 := by decide +kernel
theorem dg_ne : ∀ n : _root_.Fin 256, dg n.val = true → sm n.val = false ∧ n.val ≠ 61 ∧ n.val ≠ 32 ∧ n.val ≠ 9 ∧ n.val ≠ 10 ∧ n.val ≠ 35 := by decide +kernel
theorem sm_ne : ∀ n : _root_.Fin 256, sm n.val = true → n.val ≠ 32 ∧ n.val ≠ 9 ∧ n.val ≠ 10 ∧ n.val ≠ 35 := by decide +kernel
/-- a token that is laid out is read again -/
theorem one_again {t : List UInt8} {j : Nat} {x : Tk} {R : List UInt8} (hg : goodT x) (h : t.drop j = formT x ++ R) (hR : (hashB x = false ∧ (R = [] ∨ ∃ q, R = 32 :: q)) ∨ (hashB x = true ∧ ∃ d q, R = d :: q ∧ dg d.toNat = true)) :
    oneL t j = .inl ((x.1, x.2.1, j), j + (formT x).length) ∧ sk t j = j := by
  have hne := formT_ne hg
  have hl := drop_len h (by simp [hne])
  rw [List.length_append] at hl
  have hRb : hashB x = false → ∀ c r, R = c :: r → c.toNat = 32 := fun h0 c r hc => by
    rcases hR with ⟨_, h1 | ⟨q, h1⟩⟩ | ⟨h1, _⟩
    · rw [h1] at hc; cases hc
    · rw [h1] at hc; injection hc with hc; rw [← hc]; rfl
    · rw [h0] at h1; cases h1
  have sk_of : ∀ n, atL t j = n → n ≠ 32 → n ≠ 9 → n ≠ 10 → ¬ (n = 35 ∧ dg (atL t (j + 1)) = false) → sk t j = j := fun n hn h1 h2 h3 h4 => by
    rw [sk_eq (by omega), if_pos hl.2, hn, if_neg (by omega), if_neg h4]
  unfold formT at h hl ⊢
  have oneL_def : oneL t j = if sm (atL t j) then .inl ((1, (t.take (runL pt t j)).drop j, j), runL pt t j)
    else if dg (atL t j) then (match numL t j with
      | some k => .inl ((2, (t.take k).drop j, j), k)
      | none => .inr 2)
    else if atL t j = 34 then (match strL t j with
      | some (u, k) => .inl ((3, u, j), k)
      | none => .inr 4)
    else if opLen t j = 0 then .inr 12
    else .inl ((4, (t.take (j + opLen t j)).drop j, j), j + opLen t j) := rfl
  rw [oneL_def]
  obtain ⟨k, w, a⟩ := x
  rcases hg with ⟨rfl, c, r, rfl, hc, hr⟩ | ⟨rfl, hn1, hn2, hn3⟩ | ⟨rfl, h60⟩ | ⟨rfl, hop⟩
  · have hb := hRb rfl
    simp only [if_neg (by decide : ¬ (1 : Nat) = 3)] at h hl ⊢
    have e1 : atL t j = c.toNat := atL_of h
    have hrun : runL pt t j = j + (c :: r).length := runL_take h (fun b hb => by
      rcases List.mem_cons.1 hb with rfl | hb
      · exact sm_pt hc
      · exact hr b hb) (fun d q hd => by rw [hb d q hd]; rfl)
    have n1 := sm_ne ⟨c.toNat, UInt8.toNat_lt c⟩ hc
    rw [e1, if_pos hc, hrun, take_drop_of h]
    exact ⟨rfl, sk_of _ e1 n1.1 n1.2.1 n1.2.2.1 (fun h => n1.2.2.2 h.1)⟩
  · have hb := hRb rfl
    simp only [if_neg (by decide : ¬ (2 : Nat) = 3)] at h hl hn1 hn2 hn3 ⊢
    cases hw : w with
    | nil => exact absurd hw hn1
    | cons c r =>
      rw [← hw]
      have e1 : atL t j = c.toNat := atL_of (by rw [h, hw]; rfl)
      have hc : dg c.toNat = true := hn2 c (by rw [hw]; simp)
      have n1 := dg_ne ⟨c.toNat, UInt8.toNat_lt c⟩ hc
      have hrun : runL dg t j = j + w.length := runL_take h hn2 (fun d q hd => by rw [hb d q hd]; rfl)
      have hnum : numL t j = some (j + w.length) := by
        unfold numL
        rw [hrun, Nat.add_sub_cancel_left, h, List.take_left]
        cases hv : numR w 0 with
        | none => rw [hv] at hn3; cases hn3
        | some v => rfl
      rw [e1, n1.1, if_neg (by simp), if_pos hc, hnum]
      simp only
      rw [take_drop_of h]
      exact ⟨rfl, sk_of _ e1 n1.2.2.1 n1.2.2.2.1 n1.2.2.2.2.1 (fun h => n1.2.2.2.2.2 h.1)⟩
  · have h : t.drop j = quoteL w ++ R := h
    have hl : t.length = j + ((quoteL w).length + R.length) ∧ j < t.length := hl
    have h60 : w.length ≤ 60 := h60
    show _ = Sum.inl ((3, w, j), j + (quoteL w).length) ∧ _
    have e0 : t.drop j = 34 :: (w.flatMap formL ++ 34 :: R) := by rw [h]; unfold quoteL; simp
    have e1 : atL t j = 34 := atL_of e0
    have e2 : t.drop (j + 1) = w.flatMap formL ++ 34 :: R := by rw [← List.drop_drop, e0]; rfl
    have hq := eQ_quote t w (j + 1) R e2
    have hql := quoteL_length w
    have hstr : strL t j = some (w, j + (quoteL w).length) := by
      have hd : strL t j = if t.length ≤ eQ t (j + 1) then none else if (unq ((t.take (eQ t (j + 1) + 1)).drop j)).2 ≠ 0 then none else some ((unq ((t.take (eQ t (j + 1) + 1)).drop j)).1, eQ t (j + 1) + 1) := rfl
      rw [hd, hq, show j + 1 + (w.flatMap formL).length + 1 = j + (quoteL w).length from by omega, take_drop_of h, unq_quote, if_neg (by omega : ¬ w.length > 60), if_neg (by omega), if_neg (by simp)]
    rw [e1, if_neg (by decide), if_neg (by decide), if_pos rfl, hstr]
    exact ⟨rfl, sk_of _ e1 (by decide) (by decide) (by decide) (fun h => absurd h.1 (by decide))⟩
  · simp only [if_neg (by decide : ¬ (4 : Nat) = 3)] at h hl ⊢
    obtain ⟨c, ⟨hw, ho⟩ | ⟨hw, ho⟩⟩ := hop
    · simp only at hw ho
      subst hw
      have h : t.drop j = c :: R := h
      have e1 : atL t j = c.toNat := atL_of h
      have n1 := op1_ne ⟨c.toNat, UInt8.toNat_lt c⟩ ho
      have e2 := atL_of1 h
      have h61 : atL t (j + 1) ≠ 61 := by
        rw [e2]
        rcases hR with ⟨_, h1 | ⟨q, h1⟩⟩ | ⟨_, d, q, h1, h2⟩
        · rw [h1]; decide
        · rw [h1]; exact (by decide : (32 : UInt8).toNat ≠ 61)
        · rw [h1]; exact (dg_ne ⟨d.toNat, UInt8.toNat_lt d⟩ h2).2.1
      have hol : opLen t j = 1 := by unfold opLen; rw [if_neg (fun h => h61 h.1), e1, if_pos ho]
      have htd := take_drop_of (t := t) (j := j) (w := [c]) (R := R) h
      rw [e1, n1.1, n1.2.1, hol, if_neg (by simp), if_neg (by simp), if_neg n1.2.2.1, if_neg (by decide)]
      refine ⟨?_, sk_of _ e1 n1.2.2.2.1 n1.2.2.2.2.1 n1.2.2.2.2.2 (fun h35 => ?_)⟩
      · rw [show j + 1 = j + [c].length from rfl, htd]
      · have hcc : c = 35 := by rw [← UInt8.toNat_inj]; exact h35.1
        have hh : hashB (4, [c], a) = true := by rw [hcc]; rfl
        rcases hR with ⟨h0, _⟩ | ⟨_, d, q, h1, h2⟩
        · rw [hh] at h0; cases h0
        · rw [e2, h1] at h35
          have h3 : dg d.toNat = false := h35.2
          rw [h2] at h3
          cases h3
    · simp only at hw ho
      subst hw
      have h : t.drop j = c :: 61 :: R := h
      have e1 : atL t j = c.toNat := atL_of h
      have n1 := op2_ne ⟨c.toNat, UInt8.toNat_lt c⟩ ho
      have e2 : atL t (j + 1) = 61 := atL_of1 h
      have hol : opLen t j = 2 := by unfold opLen; rw [if_pos ⟨e2, by rw [e1]; exact ho⟩]
      have htd := take_drop_of (t := t) (j := j) (w := [c, 61]) (R := R) h
      rw [e1, n1.1, n1.2.1, hol, if_neg (by simp), if_neg (by simp), if_neg n1.2.2.1, if_neg (by decide)]
      refine ⟨?_, sk_of _ e1 n1.2.2.2.1 n1.2.2.2.2.1 n1.2.2.2.2.2.1 (fun h35 => n1.2.2.2.2.2.2 h35.1)⟩
      rw [show j + 2 = j + [c, 61].length from rfl, htd]
theorem sk_stop {s : List UInt8} {i : Nat} (hi : i < s.length) (h : sk s i = i) : atL s i ≠ 32 ∧ atL s i ≠ 9 ∧ atL s i ≠ 10 ∧ (atL s i = 35 → dg (atL s (i + 1)) = true) := by
  rw [sk_eq (by omega), if_pos hi] at h
  by_cases c1 : atL s i = 32 ∨ atL s i = 9 ∨ atL s i = 10
  · rw [if_pos c1] at h
    have := sk_le (s := s) (i := i + 1) (by omega)
    omega
  · refine ⟨by omega, by omega, by omega, fun c2 => ?_⟩
    rw [if_neg c1] at h
    cases hd : dg (atL s (i + 1)) with
    | true => rfl
    | false =>
      exfalso
      rw [if_pos ⟨c2, hd⟩] at h
      have h1 := runL_gt (p := nl) hi (by rw [c2]; rfl)
      have h2 := runL_le (p := nl) (s := s) (i := i) (by omega)
      have := sk_le h2.2
      omega
theorem sk_idem (s : List UInt8) : ∀ (d i : Nat), s.length - i ≤ d → i ≤ s.length → sk s (sk s i) = sk s i := by
  intro d
  induction d with
  | zero =>
    intro i h hl
    rw [show i = s.length from by omega, sk_eq (Nat.le_refl _), if_neg (by omega), sk_eq (Nat.le_refl _), if_neg (by omega)]
  | succ d ih =>
    intro i h hl
    by_cases c : i < s.length
    · have e := sk_eq (s := s) (i := i) hl
      rw [if_pos c] at e
      by_cases c1 : atL s i = 32 ∨ atL s i = 9 ∨ atL s i = 10
      · rw [if_pos c1] at e
        rw [e]
        exact ih (i + 1) (by omega) (by omega)
      · rw [if_neg c1] at e
        by_cases c2 : atL s i = 35 ∧ dg (atL s (i + 1)) = false
        · rw [if_pos c2] at e
          have h1 := runL_gt (p := nl) c (by rw [c2.1]; rfl)
          have h2 := runL_le (p := nl) (s := s) (i := i) (by omega)
          rw [e]
          exact ih _ (by omega) h2.2
        · rw [if_neg c2] at e
          rw [e, e]
    · rw [show i = s.length from by omega, sk_eq (Nat.le_refl _), if_neg (by omega), sk_eq (Nat.le_refl _), if_neg (by omega)]
theorem runL_all2 {p : Nat → Bool} {s : List UInt8} {i : Nat} : ∀ b ∈ (s.take (runL p s i)).drop i, p b.toNat = true := by
  have h : (s.take (runL p s i)).drop i = (s.drop i).takeWhile fun c => p c.toNat := by
    unfold runL
    rw [List.drop_take, Nat.add_sub_cancel_left]
    generalize s.drop i = x
    induction x with
    | nil => rfl
    | cons c x ih =>
      rw [List.takeWhile_cons]
      split
      · rw [List.length_cons, List.take_succ_cons, ih]
      · rfl
  rw [h]
  intro b hb
  have := List.all_takeWhile (p := fun c : UInt8 => p c.toNat) (l := s.drop i)
  exact List.all_eq_true.1 this b hb
theorem slice_cons {s : List UInt8} {i k : Nat} (hi : i < k) (hk : k ≤ s.length) : ∃ c r, (s.take k).drop i = c :: r ∧ c.toNat = atL s i ∧ r.length = k - i - 1 := by
  have hl : i < (s.take k).length := by rw [List.length_take]; omega
  refine ⟨(s.take k)[i], (s.take k).drop (i + 1), List.drop_eq_getElem_cons hl, ?_, ?_⟩
  · rw [List.getElem_take, atL_some (by omega)]
  · rw [List.length_drop, List.length_take]; omega
/-- what a token of a source is like -/
theorem one_good {s : List UInt8} {i k : Nat} {x : Tk} (hi : i < s.length) (h : oneL s i = .inl (x, k)) : goodT x ∧ (formT x).length = k - i ∧ (hashB x = true → atL s i = 35 ∧ k = i + 1) ∧ (dg (atL s i) = true → x.1 = 2) := by
  have hbd := oneL_bd hi h
  have hsl : ((s.take k).drop i).length = k - i := by rw [List.length_drop, List.length_take]; omega
  obtain ⟨c, r, hc1, hc2, hc3⟩ := slice_cons hbd.1 hbd.2
  have oneL_def : oneL s i = if sm (atL s i) then .inl ((1, (s.take (runL pt s i)).drop i, i), runL pt s i)
    else if dg (atL s i) then (match numL s i with
      | some k => .inl ((2, (s.take k).drop i, i), k)
      | none => .inr 2)
    else if atL s i = 34 then (match strL s i with
      | some (u, k) => .inl ((3, u, i), k)
      | none => .inr 4)
    else if opLen s i = 0 then .inr 12
    else .inl ((4, (s.take (i + opLen s i)).drop i, i), i + opLen s i) := rfl
  rw [oneL_def] at h
  by_cases c1 : sm (atL s i) = true
  · rw [if_pos c1] at h
    injection h with h
    injection h with h1 h2
    subst h1
    have ha := runL_all2 (p := pt) (s := s) (i := i)
    rw [h2] at ha ⊢
    refine ⟨.inl ⟨rfl, c, r, hc1, by rw [hc2]; exact c1, fun b hb => ha b (by rw [hc1]; simp [hb])⟩, hsl, (fun hh => by simp [hashB] at hh), fun hd => ?_⟩
    have := (dg_ne ⟨atL s i, atL_lt s i⟩ hd).1
    simp only at this
    rw [c1] at this
    cases this
  · rw [if_neg c1] at h
    by_cases c2 : dg (atL s i) = true
    · rw [if_pos c2] at h
      cases hn : numL s i with
      | none => rw [hn] at h; cases h
      | some k' =>
        rw [hn] at h
        injection h with h
        injection h with h1 h2
        subst h1
        rw [h2] at hn ⊢
        unfold numL at hn
        obtain ⟨v, hv, hk⟩ := Option.map_eq_some_iff.1 hn
        have ha := runL_all2 (p := dg) (s := s) (i := i)
        rw [hk] at ha hv
        rw [← List.drop_take] at hv
        exact ⟨.inr (.inl ⟨rfl, by show (s.take k).drop i ≠ []; rw [hc1]; simp, ha, by show (numR ((s.take k).drop i) 0).isSome = true; rw [hv]; rfl⟩), hsl, (fun hh => by simp [hashB] at hh), fun _ => rfl⟩
    · rw [if_neg c2] at h
      by_cases c3 : atL s i = 34
      · rw [if_pos c3] at h
        cases hn : strL s i with
        | none => rw [hn] at h; cases h
        | some y =>
          obtain ⟨u, k'⟩ := y
          rw [hn] at h
          injection h with h
          injection h with h1 h2
          subst h1
          have h2 : k' = k := h2
          subst h2
          unfold strL at hn
          simp only at hn
          split at hn
          · cases hn
          · split at hn
            · cases hn
            · rename_i hu
              injection hn with hn
              injection hn with h3 h4
              have h5 := unq_ok (Decidable.byContradiction hu)
              rw [h4] at h5 h3
              rw [h3] at h5
              refine ⟨.inr (.inr (.inl ⟨rfl, h5.2⟩)), ?_, (fun hh => by simp [hashB] at hh), fun hd => by rw [c3] at hd; cases hd⟩
              show (quoteL u).length = _
              rw [← h5.1]
              exact hsl
      · rw [if_neg c3] at h
        by_cases c4 : opLen s i = 0
        · rw [if_pos c4] at h; cases h
        · rw [if_neg c4] at h
          injection h with h
          injection h with h1 h2
          subst h1
          rw [h2]
          have hop : opW ((s.take k).drop i) := by
            rw [hc1]
            refine ⟨c, ?_⟩
            unfold opLen at h2 c4
            by_cases d1 : atL s (i + 1) = 61 ∧ op2 (atL s i) = true
            · rw [if_pos d1] at h2
              right
              match r, hc3 with
              | [b], _ =>
                refine ⟨?_, by rw [hc2]; exact d1.2⟩
                have h5 : s[i + 1]? = some b := by
                  have h6 : ((s.take k).drop i)[1]? = some b := by rw [hc1]; rfl
                  rw [List.getElem?_drop, List.getElem?_take_of_lt (by omega)] at h6
                  exact h6
                have h7 := atL_get h5
                have : b = 61 := by rw [← UInt8.toNat_inj, ← h7]; exact d1.1
                rw [this]
              | [], h => simp at h; omega
              | _ :: _ :: _, h => simp at h; omega
            · rw [if_neg d1] at h2 c4
              by_cases d2 : op1 (atL s i) = true
              · rw [if_pos d2] at h2
                left
                match r, hc3 with
                | [], _ => exact ⟨rfl, by rw [hc2]; exact d2⟩
                | _ :: _, h => simp at h; omega
              · rw [if_neg d2] at c4
                exact absurd rfl c4
          refine ⟨.inr (.inr (.inr ⟨rfl, hop⟩)), hsl, fun hh => ?_, fun hd => absurd hd c2⟩
          have hh : ((s.take k).drop i == [35]) = true := hh
          have hh := beq_iff_eq.1 hh
          rw [hc1] at hh
          injection hh with e1 e2
          subst e1 e2
          exact ⟨by rw [← hc2]; rfl, by simp at hc3; omega⟩
/-- the tokens of a source: each is good, and they are not much longer laid out -/
theorem toks_good (s : List UInt8) : ∀ (d i : Nat) (acc : List Tk), s.length - i ≤ d → i ≤ s.length → sk s i = i → (tk s i acc).2.2 = 0 →
    ∃ r, tk s i acc = (acc ++ r ++ [(0, [], s.length)], 0, 0) ∧ chainT r ∧ (∀ b, (layE r b).length ≤ 1 + 2 * (s.length - i)) ∧ r.length ≤ s.length - i ∧ (i < s.length → dg (atL s i) = true → ∃ y r', r = y :: r' ∧ y.1 = 2) := by
  have hend : ∀ i acc, i = s.length → ∃ r, tk s i acc = (acc ++ r ++ [(0, [], s.length)], 0, 0) ∧ chainT r ∧ (∀ b, (layE r b).length ≤ 1 + 2 * (s.length - i)) ∧ r.length ≤ s.length - i ∧ (i < s.length → dg (atL s i) = true → ∃ y r', r = y :: r' ∧ y.1 = 2) := fun i acc hi => by
    refine ⟨[], ?_, trivial, fun b => ?_, Nat.zero_le _, fun h => by omega⟩
    · rw [tk_eq _ (by omega), if_neg (by omega), List.append_nil]
    · cases b <;> simp [layE]
  intro d
  induction d with
  | zero => intro i acc h hl _ _; exact hend i acc (by omega)
  | succ d ih =>
    intro i acc h hl hs h0
    by_cases c : i < s.length
    · rw [tk_eq _ hl, if_pos c] at h0 ⊢
      by_cases c1 : acc.length = 4000
      · rw [if_pos c1] at h0; cases h0
      · rw [if_neg c1] at h0 ⊢
        cases ho : oneL s i with
        | inr e =>
          have he := oneL_err ho
          rw [ho] at h0
          simp only at h0
          omega
        | inl y =>
          obtain ⟨x, k⟩ := y
          rw [ho] at h0
          simp only at h0 ⊢
          have hbd := oneL_bd c ho
          have hle := sk_le hbd.2
          obtain ⟨g1, g2, g3, g4⟩ := one_good c ho
          obtain ⟨r, f1, f2, f3, f4, f5⟩ := ih (sk s k) (acc ++ [x]) (by omega) hle.2 (sk_idem s _ k (Nat.le_refl _) hbd.2) h0
          refine ⟨x :: r, ?_, ⟨g1, fun hh => ?_, f2⟩, fun b => ?_, ?_, fun _ hd => ⟨x, r, rfl, g4 hd⟩⟩
          · rw [f1]; simp
          · obtain ⟨h35, hk1⟩ := g3 hh
            have hdg := (sk_stop c hs).2.2.2 h35
            have hlt : k < s.length := by
              rcases Nat.lt_or_ge k s.length with h' | h'
              · exact h'
              · have h0 : atL s k = 0 := by unfold atL; rw [List.getElem?_eq_none h']
                rw [← hk1, h0] at hdg; cases hdg
            rw [← hk1] at hdg
            have n1 := dg_ne ⟨atL s k, atL_lt s k⟩ hdg
            simp only at n1
            have hsk : sk s k = k := by rw [sk_eq (by omega), if_pos hlt, if_neg (by omega), if_neg (by omega)]
            rw [hsk] at f5
            exact f5 hlt hdg
          · have h3 := f3 (!hashB x)
            rw [layE_cons, List.length_append, List.length_append, g2]
            have : (if b then [32] else [] : List UInt8).length ≤ 1 := by cases b <;> simp
            omega
          · rw [List.length_cons]; omega
    · exact hend i acc (by omega)
/-- what is laid out is read again -/
theorem toks_again (t : List UInt8) : ∀ (l : List Tk) (i : Nat) (b : Bool) (acc : List Tk), t.drop i = layE l b → i ≤ t.length → chainT l → acc.length + l.length < 4000 →
    ∃ r, tk t (sk t i) acc = (acc ++ r ++ [(0, [], t.length)], 0, 0) ∧ r.map (fun x => (x.1, x.2.1)) = l.map (fun x => (x.1, x.2.1)) := by
  intro l
  induction l with
  | nil =>
    intro i b acc h hi _ ha
    have hsk : sk t i = t.length := by
      cases b with
      | false =>
        have h1 : (t.drop i).length = 0 := by rw [h]; rfl
        rw [List.length_drop] at h1
        rw [show i = t.length from by omega, sk_eq (Nat.le_refl _), if_neg (by omega)]
      | true =>
        have h : t.drop i = [32] := h
        have h1 := drop_len h (by simp)
        rw [sk_eq hi, if_pos h1.2, if_pos (Or.inl (show atL t i = 32 from atL_of h)), show i + 1 = t.length from h1.1.symm, sk_eq (Nat.le_refl _), if_neg (by omega)]
    rw [hsk, tk_eq _ (Nat.le_refl _), if_neg (by omega)]
    exact ⟨[], by rw [List.append_nil], rfl⟩
  | cons x l ih =>
    intro i b acc h hi hch ha
    obtain ⟨g1, g2, g3⟩ := hch
    rw [List.length_cons] at ha
    -- where the token begins
    have hj : ∃ j, i ≤ j ∧ t.drop j = formT x ++ layE l (!hashB x) ∧ (sk t j = j → sk t i = j) := by
      rw [layE_cons] at h
      cases b with
      | false => exact ⟨i, Nat.le_refl _, h, fun h => h⟩
      | true =>
        have h : t.drop i = 32 :: (formT x ++ layE l (!hashB x)) := h
        have h1 := drop_len h (by simp)
        refine ⟨i + 1, by omega, by rw [← List.drop_drop, h]; rfl, fun hh => ?_⟩
        rw [sk_eq hi, if_pos h1.2, if_pos (Or.inl (show atL t i = 32 from atL_of h)), hh]
    obtain ⟨j, hij, hd, hsk⟩ := hj
    have hl := drop_len hd (by simp [formT_ne g1])
    rw [List.length_append] at hl
    have hR : (hashB x = false ∧ (layE l (!hashB x) = [] ∨ ∃ q, layE l (!hashB x) = 32 :: q)) ∨ (hashB x = true ∧ ∃ d q, layE l (!hashB x) = d :: q ∧ dg d.toNat = true) := by
      rcases layE_head x l g2 g3 with ⟨h1, h2⟩ | h1
      · exact .inl ⟨h1, .inr h2⟩
      · exact .inr h1
    obtain ⟨k1, k2⟩ := one_again g1 hd hR
    rw [hsk k2, tk_eq _ (by omega), if_pos hl.2, if_neg (by omega), k1]
    simp only
    obtain ⟨r, f1, f2⟩ := ih (j + (formT x).length) (!hashB x) (acc ++ [(x.1, x.2.1, j)]) (by rw [← List.drop_drop, hd, List.drop_left]) (by omega) g3 (by rw [List.length_append, List.length_singleton]; omega)
    refine ⟨(x.1, x.2.1, j) :: r, ?_, ?_⟩
    · rw [f1]; simp
    · rw [List.map_cons, List.map_cons, f2]
end Go.HH
