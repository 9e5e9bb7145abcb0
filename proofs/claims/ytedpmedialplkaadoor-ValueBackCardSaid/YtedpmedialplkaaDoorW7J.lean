/-
  Joined: W7.
-/
import Derived.Test.YtedpmedialplkaaDoorWJ
import Derived.Test.YtedpmedialplkaaDoorV11J
import Derived.Test.YtedpmedialplkaaDoorVDJ
namespace Go.HH
open Go Go.Proofs
set_option maxRecDepth 100000
set_option linter.unusedSimpArgs false
set_option linter.unusedVariables false
theorem ok_L20_ValueBack : fnOK CC Tryd.f8 (Tryd.f8.body.getD .skip) = true := by kernel_rfl
theorem fat_L20_ValueBack : CC.P.funcs[8]? = some Tryd.f8 := by kernel_rfl
theorem u8_of (n : Nat) (h : n < 256) : (UInt8.ofNat n).toNat = n := by rw [UInt8.toNat_ofNat', Nat.mod_eq_of_lt (by omega)]
theorem dec_enc : ∀ (k u i acc : Nat) (r : List UInt8), u < 128 ^ (k + 1) → u * 128 ^ i < 18446744073709551616 → (0 < i → u ≠ 0) → i ≤ 9 → decF (encF k u ++ r) i acc = .inl (acc + u * 128 ^ i, i + (encF k u).length)
  | 0, u, i, acc, r, h, h2, h3, h9 => by
    have hu : u < 128 := by simpa using h
    show decF (UInt8.ofNat u :: r) i acc = _
    unfold decF
    rw [u8_of u (by omega)]
    have hz : ¬ ((0 < i ∧ u = 0) ∨ (i = 9 ∧ 1 < u)) := by
      rintro (⟨a, b⟩ | ⟨a, b⟩)
      · exact h3 a b
      · subst a
        have e : 128 ^ 9 = 9223372036854775808 := by decide
        rw [e] at h2; omega
    rw [if_neg hz, if_pos hu, Nat.mod_eq_of_lt hu]
    rfl
  | k + 1, u, i, acc, r, h, h2, h3, h9 => by
    unfold encF
    by_cases hu : u < 128
    · rw [if_pos hu]
      show decF (UInt8.ofNat u :: r) i acc = _
      unfold decF
      rw [u8_of u (by omega)]
      have hz : ¬ ((0 < i ∧ u = 0) ∨ (i = 9 ∧ 1 < u)) := by
        rintro (⟨a, b⟩ | ⟨a, b⟩)
        · exact h3 a b
        · subst a
          have e : 128 ^ 9 = 9223372036854775808 := by decide
          rw [e] at h2; omega
      rw [if_neg hz, if_pos hu, Nat.mod_eq_of_lt hu]
      rfl
    · rw [if_neg hu]
      show decF (UInt8.ofNat (u % 128 + 128) :: (encF k (u / 128) ++ r)) i acc = _
      unfold decF
      rw [u8_of (u % 128 + 128) (by omega)]
      have hi9 : i ≠ 9 := by
        intro e
        subst e
        have e : 128 ^ 9 = 9223372036854775808 := by decide
        rw [e] at h2; omega
      rw [if_neg (by omega), if_neg (by omega), show (u % 128 + 128) % 128 = u % 128 by omega]
      have hp : u / 128 * 128 ^ (i + 1) ≤ u * 128 ^ i := by
        rw [Nat.pow_succ, Nat.mul_comm (128 ^ i) 128, ← Nat.mul_assoc]
        exact Nat.mul_le_mul_right _ (by omega)
      have ih := dec_enc k (u / 128) (i + 1) (acc + u % 128 * 128 ^ i) r (by rw [Nat.div_lt_iff_lt_mul (by decide)]; rw [Nat.pow_succ] at h; exact h) (by omega) (fun _ => by omega) (by omega)
      rw [ih]
      have e1 : acc + u % 128 * 128 ^ i + u / 128 * 128 ^ (i + 1) = acc + u * 128 ^ i := by
        have hd : u = u % 128 + 128 * (u / 128) := by omega
        rw [Nat.pow_succ, Nat.mul_comm (128 ^ i) 128, ← Nat.mul_assoc, Nat.add_assoc, ← Nat.add_mul]
        congr 2
        omega
      rw [e1]
      have e2 : i + 1 + (encF k (u / 128)).length = i + (UInt8.ofNat (u % 128 + 128) :: encF k (u / 128)).length := by rw [List.length_cons]; omega
      rw [e2]
theorem enc_dec : ∀ (K : Nat) (l : List UInt8) (i acc v k : Nat), i + K = 9 → decF l i acc = .inl (v, k) → ∃ u, v = acc + u * 128 ^ i ∧ (0 < i → u ≠ 0) ∧ i < k ∧ l = encF K u ++ l.drop (k - i)
  | K, [], i, acc, v, k, _, h => by cases h
  | 0, c :: r, i, acc, v, k, hi, h => by
    unfold decF at h
    split at h
    · cases h
    · rename_i hz
      have hc : c.toNat = 1 := by omega
      rw [if_pos (by omega)] at h
      injection h with h
      injection h with h1 h2
      refine ⟨1, ?_, by omega, by omega, ?_⟩
      · rw [← h1, hc]
      · rw [← h2, show i + 1 - i = 1 by omega]
        have e : UInt8.ofNat 1 = c := by rw [← UInt8.toNat_inj, hc]; rfl
        show c :: r = UInt8.ofNat 1 :: r
        rw [e]
  | K + 1, c :: r, i, acc, v, k, hi, h => by
    unfold decF at h
    have hc256 : c.toNat < 256 := c.toNat_lt
    split at h
    · cases h
    · rename_i hz
      split at h
      · rename_i hd
        injection h with h
        injection h with h1 h2
        refine ⟨c.toNat, ?_, fun a b => hz (.inl ⟨a, b⟩), by omega, ?_⟩
        · rw [← h1, Nat.mod_eq_of_lt hd]
        · rw [← h2, show i + 1 - i = 1 by omega]
          unfold encF
          rw [if_pos hd]
          have e : UInt8.ofNat c.toNat = c := by rw [← UInt8.toNat_inj, u8_of _ hc256]
          rw [e]
          rfl
      · rename_i hd
        obtain ⟨u, g1, g2, g3, g4⟩ := enc_dec K r (i + 1) _ v k (by omega) h
        have hu := g2 (by omega)
        refine ⟨c.toNat % 128 + 128 * u, ?_, fun _ => by omega, by omega, ?_⟩
        · rw [g1, Nat.pow_succ, Nat.mul_comm (128 ^ i) 128, ← Nat.mul_assoc, Nat.add_assoc, ← Nat.add_mul]
          congr 2
          omega
        · have e1 : (c.toNat % 128 + 128 * u) % 128 = c.toNat % 128 := by omega
          have e2 : (c.toNat % 128 + 128 * u) / 128 = u := by omega
          unfold encF
          rw [if_neg (by omega), e1, e2]
          have e : UInt8.ofNat (c.toNat % 128 + 128) = c := by rw [← UInt8.toNat_inj, u8_of _ (by omega)]; omega
          rw [e]
          have e3 : (c :: r).drop (k - i) = r.drop (k - (i + 1)) := by
            rw [show k - i = (k - (i + 1)) + 1 by omega, List.drop_succ_cons]
          rw [e3, List.cons_append, ← g4]
theorem unzz_zz {n : Int} (h : inI n) : unzz (zz n) = n := by unfold inI at h; unfold unzz zz; split <;> split <;> omega
theorem zz_unzz (u : Nat) : zz (unzz u) = u := by unfold zz unzz; split <;> split <;> omega
theorem rdI_enc {n : Int} (h : inI n) (r : List UInt8) : rdI (encI n ++ r) 0 = (n, r, 0) := by
  unfold rdI
  rw [if_neg (fun x => x rfl)]
  have hz := zz_lt h
  have hd := dec_enc 9 (zz n) 0 0 r (by omega) (by omega) (fun a => by omega) (by omega)
  unfold encI
  rw [hd]
  simp only [Nat.pow_zero, Nat.mul_one, Nat.zero_add]
  rw [unzz_zz h, List.drop_append_of_le_length (Nat.le_refl _), List.drop_length, List.nil_append]
theorem rdI_dec {l : List UInt8} {e : Int} {n : Int} {l' : List UInt8} (h : rdI l e = (n, l', 0)) : e = 0 ∧ l = encI n ++ l' ∧ inI n := by
  unfold rdI at h
  by_cases e0 : e = 0
  · refine ⟨e0, ?_⟩
    rw [if_neg (fun x => x e0)] at h
    cases hd : decF l 0 0 with
    | inr c =>
      rw [hd] at h
      have := decF_err hd
      injection h with _ h
      injection h with _ h
      omega
    | inl p =>
      obtain ⟨v, k⟩ := p
      rw [hd] at h
      injection h with h1 h
      injection h with h2 _
      obtain ⟨u, g1, _, _, g4⟩ := enc_dec 9 l 0 0 v k rfl hd
      have hb := decF_bd l 0 0 v k hd (by omega) (by decide)
      have hv : v = u := by rw [g1]; simp
      subst hv
      rw [Nat.sub_zero, h2] at g4
      refine ⟨?_, ?_⟩
      · unfold encI
        rw [← h1, zz_unzz]
        exact g4
      · rw [← h1]
        exact unzz_in hb.2.2.2
  · rw [if_pos e0] at h
    injection h with _ h
    injection h with _ h
    exact absurd h e0
theorem rdT_enc {s : List UInt8} (h : s.length ≤ 60) (r : List UInt8) : rdT (encT s ++ r) 0 = (s, r, 0) := by
  have h1 : rdI (encT s ++ r) 0 = ((s.length : Int), s ++ r, 0) := by
    unfold encT
    rw [List.append_assoc]
    exact rdI_enc (by unfold inI; omega) _
  have h2 : rdC (encT s ++ r) 0 = ((s.length : Int), s ++ r, 0) := by
    unfold rdC
    rw [h1]
    simp only [ne_eq, not_true_eq_false, if_false]
    rw [if_neg (by omega), if_neg (by omega)]
  unfold rdT
  rw [h2]
  simp only [ne_eq, not_true_eq_false, if_false]
  rw [if_neg (by rw [List.length_append]; omega), Int.toNat_natCast, List.take_append_of_le_length (Nat.le_refl _), List.take_length, List.drop_append_of_le_length (Nat.le_refl _), List.drop_length, List.nil_append]
theorem rdT_dec {l : List UInt8} {e : Int} {s l' : List UInt8} (h : rdT l e = (s, l', 0)) : e = 0 ∧ l = encT s ++ l' := by
  unfold rdT at h
  by_cases c0 : (rdC l e).2.2 = 0
  · rw [if_neg (fun x => x c0)] at h
    have hok := rdC_ok c0
    by_cases c1 : (rdC l e).1 > ((rdC l e).2.1.length : Int)
    · rw [if_pos c1] at h
      injection h with _ h
      injection h with _ h
      cases h
    · rw [if_neg c1] at h
      injection h with h1 h
      injection h with h2 _
      have hc : rdC l e = rdI l e := by
        unfold rdC at c0 ⊢
        by_cases d0 : (rdI l e).2.2 = 0
        · rw [if_neg (fun x => x d0)] at c0 ⊢
          by_cases d1 : (rdI l e).1 < 0
          · rw [if_pos d1] at c0; cases c0
          · rw [if_neg d1] at c0 ⊢
            by_cases d2 : (rdI l e).1 > 60
            · rw [if_pos d2] at c0; cases c0
            · rw [if_neg d2]
        · rw [if_pos d0] at c0
          exact absurd c0 d0
      rw [hc] at h1 h2 hok c1 c0
      rcases hr : rdI l e with ⟨n, l1, e1⟩
      rw [hr] at h1 h2 hok c1 c0
      simp only at h1 h2 hok c1 c0
      subst c0
      obtain ⟨g1, g2, _⟩ := rdI_dec hr
      refine ⟨g1, ?_⟩
      have hsl : (s.length : Int) = n := by rw [← h1, List.length_take]; omega
      unfold encT
      rw [hsl, List.append_assoc, ← h1, ← h2, List.take_append_drop]
      exact g2
  · rw [if_pos c0] at h
    injection h with _ h
    injection h with _ h
    exact absurd h c0
/-- what a checked value looks like -/
theorem ck_shape {v : Vl} (h : ckV v = 0) : inI v.2.1 ∧ (v.1 ≠ 4 → v.2.2 = []) ∧ (v.1 = 0 ∨ v.1 = 4 → v.2.1 = 0) := by
  have hkd := (ck_kd h).1
  have hcl := (ck_len h).2.2
  obtain ⟨k, n, s⟩ := v
  simp only at *
  refine ⟨?_, hcl, ?_⟩
  · unfold ckV at h
    simp only at h
    unfold inI
    cases ho : okN k n with
    | none => rw [ho] at h; cases h
    | some b =>
      rw [ho] at h
      cases b with
      | false => cases h
      | true =>
        unfold okN at ho
        split at ho
        · injection ho with ho; have : n = 0 := by simpa using ho
          omega
        · split at ho
          · injection ho with ho
            have : n = 0 ∨ n = 1 := by simpa using ho
            omega
          · split at ho
            · injection ho with ho
              have := inR_t ho
              omega
            · split at ho
              · injection ho with ho
                have : 0 ≤ n ∧ n ≤ 63 := by simpa using ho
                omega
              · cases ho
  · intro hk
    unfold ckV at h
    simp only at h
    have ho : okN k n = some (n == 0) := if_pos hk
    rw [ho] at h
    by_cases e : n = 0
    · exact e
    · rw [show (n == 0) = false by simpa using e] at h
      cases h
theorem tkA_pt {v : Vl} (h : ckV v = 0) : tkA (ptW v) = (v, [], 0) := by
  have hkd := ck_kd h
  obtain ⟨hn, hs, hz⟩ := ck_shape h
  obtain ⟨k, n, s⟩ := v
  simp only at *
  rcases hkd.1 with rfl | rfl | rfl | rfl | rfl
  · have h0 : n = 0 := hz (.inl rfl)
    have h1 : s = [] := hs (by decide)
    subst h0 h1
    have := rdI_enc (n := 0) (by unfold inI; omega) []
    rw [List.append_nil] at this
    have hw : ptW (0, 0, []) = encI 0 := if_pos rfl
    rw [hw]
    unfold tkA
    rw [this]
    rfl
  · have h1 : s = [] := hs (by decide)
    subst h1
    have := rdI_enc (n := 1) (by unfold inI; omega) (encI n)
    have h2 := rdI_enc hn []
    rw [List.append_nil] at h2
    have hw : ptW (1, n, []) = encI 1 ++ encI n := by
      unfold ptW
      rw [if_neg (show ¬ (1 : Int) = 0 by decide), if_neg (show ¬ (1 : Int) = 4 by decide)]
    rw [hw]
    unfold tkA
    rw [this]
    simp only
    rw [h2]
    rfl
  · have h1 : s = [] := hs (by decide)
    subst h1
    have := rdI_enc (n := 2) (by unfold inI; omega) (encI n)
    have h2 := rdI_enc hn []
    rw [List.append_nil] at h2
    have hw : ptW (2, n, []) = encI 2 ++ encI n := by
      unfold ptW
      rw [if_neg (show ¬ (2 : Int) = 0 by decide), if_neg (show ¬ (2 : Int) = 4 by decide)]
    rw [hw]
    unfold tkA
    rw [this]
    simp only
    rw [h2]
    rfl
  · have h1 : s = [] := hs (by decide)
    subst h1
    have := rdI_enc (n := 3) (by unfold inI; omega) (encI n)
    have h2 := rdI_enc hn []
    rw [List.append_nil] at h2
    have hw : ptW (3, n, []) = encI 3 ++ encI n := by
      unfold ptW
      rw [if_neg (show ¬ (3 : Int) = 0 by decide), if_neg (show ¬ (3 : Int) = 4 by decide)]
    rw [hw]
    unfold tkA
    rw [this]
    simp only
    rw [h2]
    rfl
  · have h0 : n = 0 := hz (.inr rfl)
    subst h0
    have := rdI_enc (n := 4) (by unfold inI; omega) (encT s)
    have h2 := rdT_enc hkd.2 []
    rw [List.append_nil] at h2
    have hw : ptW (4, 0, s) = encI 4 ++ encT s := by
      unfold ptW
      rw [if_neg (show ¬ (4 : Int) = 0 by decide), if_pos rfl]
    rw [hw]
    unfold tkA
    rw [this]
    simp only
    rw [h2]
    rfl
theorem dc_pt {v : Vl} (h : ckV v = 0) : dcV (ptV v) = (v, 0) := by
  have ht := tkA_pt h
  have hp : ptV v = ptW v := if_neg (fun x => x h)
  have he : tkE (v, ([] : List UInt8), (0 : Int)) = 0 := by
    unfold tkE
    simp only [ne_eq, not_true_eq_false, if_false, h]
  unfold dcV
  rw [hp, ht, he]
  have hee : endE [] 0 = 0 := rfl
  simp only
  rw [hee, if_neg (fun x => x rfl)]
  unfold tkF
  rw [he, if_neg (fun x => x rfl)]
theorem dc_inv {s : List UInt8} {c : Vl} (h : dcV s = (c, 0)) : ptV c = s ∧ ckV c = 0 := by
  unfold dcV at h
  by_cases hE : endE (tkA s).2.1 (tkE (tkA s)) = 0
  · rw [if_neg (fun x => x hE)] at h
    injection h with h _
    have he : tkE (tkA s) = 0 ∧ (tkA s).2.1 = [] := by
      unfold endE at hE
      by_cases a : tkE (tkA s) = 0
      · rw [if_neg (fun x => x a)] at hE
        by_cases b : (tkA s).2.1 = []
        · exact ⟨a, b⟩
        · rw [if_neg b] at hE; cases hE
      · rw [if_pos a] at hE; exact absurd hE a
    unfold tkF at h
    rw [if_neg (fun x => x he.1)] at h
    have hk : (tkA s).2.2 = 0 ∧ ckV (tkA s).1 = 0 := by
      have h1 := he.1
      unfold tkE at h1
      by_cases a : (tkA s).2.2 = 0
      · rw [if_neg (fun x => x a)] at h1
        by_cases b : ckV (tkA s).1 = 0
        · exact ⟨a, b⟩
        · rw [if_pos b] at h1; cases h1
      · rw [if_pos a] at h1; exact absurd h1 a
    have hA : tkA s = (c, [], 0) := by
      rcases hr : tkA s with ⟨a, b, d⟩
      rw [hr] at h he hk
      simp only at h he hk
      rw [h, he.2, hk.1]
    rw [h] at hk
    refine ⟨?_, hk.2⟩
    have hsh := ck_kd hk.2
    have hp : ptV c = ptW c := if_neg (fun x => x hk.2)
    rw [hp]
    unfold tkA at hA
    rcases hr : rdI s 0 with ⟨k, l1, e1⟩
    rw [hr] at hA
    simp only at hA
    by_cases k1 : k = 1 ∨ k = 2 ∨ k = 3
    · rw [if_pos k1] at hA
      injection hA with a1 a2
      rcases hr2 : rdI l1 e1 with ⟨n, l2, e2⟩
      rw [hr2] at a1 a2
      injection a2 with a2 a3
      simp only at a1
      subst a2
      subst a3
      obtain ⟨g1, g2, _⟩ := rdI_dec hr2
      subst g1
      obtain ⟨_, g3, _⟩ := rdI_dec hr
      rw [← a1]
      unfold ptW
      rw [if_neg (by simp only; omega), if_neg (by simp only; omega)]
      simp only
      rw [g3, g2, List.append_nil]
    · rw [if_neg k1] at hA
      by_cases k4 : k = 4
      · rw [if_pos k4] at hA
        injection hA with a1 a2
        rcases hr2 : rdT l1 e1 with ⟨t, l2, e2⟩
        rw [hr2] at a1 a2
        injection a2 with a2 a3
        simp only at a1
        subst a2
        subst a3
        obtain ⟨g1, g2⟩ := rdT_dec hr2
        subst g1
        obtain ⟨_, g3, _⟩ := rdI_dec hr
        rw [← a1]
        show (if (4 : Int) = 0 then encI 0 else if (4 : Int) = 4 then encI 4 ++ encT t else encI 4 ++ encI 0) = s
        rw [if_neg (show ¬ (4 : Int) = 0 by decide), if_pos rfl, g3, g2, List.append_nil, k4]
      · rw [if_neg k4] at hA
        injection hA with a1 a2
        injection a2 with a2 a3
        subst a2
        subst a3
        obtain ⟨_, g3, _⟩ := rdI_dec hr
        rw [← a1] at hsh ⊢
        simp only at hsh
        have k0 : k = 0 := by omega
        unfold ptW
        rw [if_pos k0, g3, List.append_nil, k0]
  · rw [if_pos hE] at h
    injection h with _ h
    exact absurd h hE
theorem itoa_head (n : Int) : (Lib.itoa n).head? ≠ some 35 ∧ (Lib.itoa n).head? ≠ some 34 ∧ (Lib.itoa n).head? ≠ some 116 ∧ (Lib.itoa n).head? ≠ some 102 ∧ Lib.itoa n ≠ [] := by
  by_cases c : n < 0
  · rw [itoa_neg c]
    simp
  · rw [itoa_nonneg c]
    have hd := dec_head n.toNat
    have hne := dec_ne n.toNat
    have hp := pr_dec n.toNat
    generalize Lib.decDigits n.toNat = l at *
    cases l with
    | nil => exact absurd rfl hne
    | cons x r =>
      unfold pr at hp
      have hx : isD x = true := by
        cases hb : isD x with
        | true => rfl
        | false => rw [hb] at hp; simp at hp
      unfold isD at hx
      simp at hx
      have key : ∀ m : Nat, m < 256 → ¬ (48 ≤ m ∧ m ≤ 57) → (x :: r).head? ≠ some (UInt8.ofNat m) := by
        intro m hm hmm he
        have : x = UInt8.ofNat m := by simpa using he
        rw [this, u8_of m hm] at hx
        exact hmm hx
      exact ⟨key 35 (by decide) (by decide), key 34 (by decide) (by decide), key 116 (by decide) (by decide), key 102 (by decide) (by decide), by simp⟩
theorem ck_num {v : Vl} (h : ckV v = 0) : okN v.1 v.2.1 = some true := by
  unfold ckV at h
  cases ho : okN v.1 v.2.1 with
  | none => rw [ho] at h; cases h
  | some b =>
    rw [ho] at h
    cases b with
    | false => cases h
    | true => rfl
theorem ck_one_in {v : Vl} (h : ckV v = 0) (k : v.1 = 1) : v.2.1 = 0 ∨ v.2.1 = 1 := by
  have ho := ck_num h
  rw [k] at ho
  have e : okN 1 v.2.1 = some (v.2.1 == 0 || v.2.1 == 1) := rfl
  rw [e] at ho
  injection ho with ho
  simpa using ho
theorem ck_two_in {v : Vl} (h : ckV v = 0) (k : v.1 = 2) : inM v.2.1 := by
  have ho := ck_num h
  rw [k] at ho
  have e : okN 2 v.2.1 = some (inR v.2.1) := rfl
  rw [e] at ho
  injection ho with ho
  exact inR_t ho
theorem ck_three_in {v : Vl} (h : ckV v = 0) (k : v.1 = 3) : inM v.2.1 := by
  have ho := ck_num h
  rw [k] at ho
  have e : okN 3 v.2.1 = some (decide (0 ≤ v.2.1) && decide (v.2.1 ≤ 63)) := rfl
  rw [e] at ho
  injection ho with ho
  have : 0 ≤ v.2.1 ∧ v.2.1 ≤ 63 := by simpa using ho
  unfold inM
  omega
theorem gs_pr {v : Vl} (h : ckV v = 0) : gsV (prV v) = v := by
  have hkd := ck_kd h
  obtain ⟨hn, hs, hz⟩ := ck_shape h
  have hin : v.1 = 2 → inM v.2.1 := fun k => by
    have := ck_two_in h k
    exact this
  have hin3 : v.1 = 3 → inM v.2.1 := fun k => ck_three_in h k
  have hb1 : v.1 = 1 → v.2.1 = 0 ∨ v.2.1 = 1 := fun k => ck_one_in h k
  unfold prV
  rw [if_neg (fun x => x h)]
  obtain ⟨k, n, s⟩ := v
  simp only at *
  rcases hkd.1 with rfl | rfl | rfl | rfl | rfl
  · have h0 : n = 0 := hz (.inl rfl)
    have h1 : s = [] := hs (by decide)
    subst h0 h1
    rfl
  · have h1 : s = [] := hs (by decide)
    subst h1
    rcases hb1 rfl with rfl | rfl <;> rfl
  · have h1 : s = [] := hs (by decide)
    subst h1
    rw [if_neg (by decide), if_neg (by decide), if_pos rfl]
    obtain ⟨a1, a2, a3, a4, a5⟩ := itoa_head n
    have hp := (parse_itoa n).1 (hin rfl)
    unfold gsV
    rw [if_neg (fun e => by rw [e] at a3; exact a3 rfl), if_neg (fun e => by rw [e] at a4; exact a4 rfl), if_neg a1, if_neg a2, hp]
    rfl
  · have h1 : s = [] := hs (by decide)
    subst h1
    rw [if_neg (by decide), if_neg (by decide), if_neg (by decide), if_pos rfl]
    have hp := (parse_itoa n).1 (hin3 rfl)
    unfold gsV
    rw [if_neg (fun e => by injection e with e; cases e), if_neg (fun e => by injection e with e; cases e), if_pos (show (35 :: Lib.itoa n).head? = some 35 from rfl), List.drop_succ_cons, List.drop_zero, hp]
  · have h0 : n = 0 := hz (.inr rfl)
    subst h0
    rw [if_neg (by decide), if_neg (by decide), if_neg (by decide), if_neg (by decide)]
    have hu := unq_quote s
    rw [if_neg (by have := hkd.2; omega)] at hu
    unfold gsV
    have hq : quoteL s = 34 :: (s.flatMap formL ++ [34]) := rfl
    rw [if_neg (fun e => by rw [hq] at e; injection e with e; cases e), if_neg (fun e => by rw [hq] at e; injection e with e; cases e), if_neg (by rw [hq]; simp), if_pos (by rw [hq]; rfl), hu]
theorem pr_ne {v : Vl} (h : ckV v = 0) : prV v ≠ [] := by
  have hkd := ck_kd h
  unfold prV
  rw [if_neg (fun x => x h)]
  split
  · decide
  · split
    · split <;> decide
    · split
      · exact (itoa_head _).2.2.2.2
      · split
        · simp
        · unfold quoteL; simp
theorem ps_pr {v : Vl} (h : ckV v = 0) : psV (prV v) = (v, 0) := by
  have hg := gs_pr h
  unfold psV
  rw [hg, if_neg]
  rintro (e | e)
  · exact pr_ne h e
  · exact e rfl
theorem ps_inv {s : List UInt8} {d : Vl} (h : psV s = (d, 0)) : prV d = s ∧ ckV d = 0 := by
  unfold psV at h
  by_cases c : s = [] ∨ prV (gsV s) ≠ s
  · rw [if_pos c] at h
    injection h with _ h
    cases h
  · rw [if_neg c] at h
    injection h with h _
    rw [h] at c
    have h1 : s ≠ [] := fun e => c (.inl e)
    have h2 : prV d = s := Classical.byContradiction fun e => c (.inr e)
    refine ⟨h2, Classical.byContradiction fun e => h1 ?_⟩
    rw [← h2]
    exact if_pos e
theorem pr_len (v : Vl) (hn : inI v.2.1) : (prV v).length ≤ 1000 := by
  by_cases h : ckV v = 0
  · have hkd := ck_kd h
    have hi := itoa_length hn
    have hf := flat_le v.2.2
    unfold prV
    rw [if_neg (fun x => x h)]
    split
    · decide
    · split
      · split <;> decide
      · split
        · omega
        · split
          · rw [List.length_cons]; omega
          · rw [quoteL_length]; omega
  · unfold prV
    rw [if_pos h]
    simp
theorem pt_len (v : Vl) : (ptV v).length ≤ 1000 := by
  unfold ptV
  split
  · have := encI_len 0; omega
  · rename_i h
    have hkd := ck_kd (Classical.not_not.1 h)
    have l1 := encI_len v.1
    have l2 := encI_len v.2.1
    have l3 := encI_len v.2.2.length
    have l4 := encI_len 4
    have l0 := encI_len 0
    unfold ptW encT
    split
    · omega
    · split
      · simp only [List.length_append]; omega
      · simp only [List.length_append]; omega
/-- the two readings of a string: each an error, or what is written as it was -/
def Rd2 (s : List UInt8) (c : Vl × Int) (t : List UInt8) : Prop := c.2 = 0 → inI c.1.2.1 ∧ t = s ∧ ckV c.1 = 0
theorem rd2_dc (s : List UInt8) : Rd2 s (dcV s) (ptV (dcV s).1) := fun h => by
  have : dcV s = ((dcV s).1, 0) := by rw [← h]
  have h2 := dc_inv this
  exact ⟨(ck_shape h2.2).1, h2⟩
theorem rd2_ps (s : List UInt8) : Rd2 s (psV s) (prV (psV s).1) := fun h => by
  have : psV s = ((psV s).1, 0) := by rw [← h]
  have h2 := ps_inv this
  exact ⟨(ck_shape h2.2).1, h2⟩
theorem back_ok (k n : Int) (x s : List UInt8) (ck : Int) (pt pr : List UInt8) (dk dn : Int) (ds : List UInt8) (de : Int) (tk tn : Int) (ts : List UInt8) (te : Int) (haw : ∀ bx, callOp CC (callL CC) 12 [] bx = some (.ret (.bool true), bx)) (hx1 : ¬ (x.length : Int) > 300) (hx2 : ¬ (s.length : Int) > 300) (hc : ∀ bx, callOp CC (callL CC) 13 [.agg [.int .i64 k, .int .i64 n, .str x]] bx = some (.ret (.int .i64 ck), bx)) (hD : ∀ bx, callOp CC (callL CC) 25 [.str s] bx = some (.ret (.tup [.agg [.int .i64 dk, .int .i64 dn, .str ds], .int .i64 de]), bx)) (hP : ∀ bx, callOp CC (callL CC) 34 [.str s] bx = some (.ret (.tup [.agg [.int .i64 tk, .int .i64 tn, .str ts], .int .i64 te]), bx)) (hd : de = 0 → (∀ bx, callOp CC (callL CC) 27 [.agg [.int .i64 dk, .int .i64 dn, .str ds]] bx = some (.ret (.str s), bx)) ∧ (∀ bx, callOp CC (callL CC) 13 [.agg [.int .i64 dk, .int .i64 dn, .str ds]] bx = some (.ret (.int .i64 0), bx))) (ht : te = 0 → (∀ bx, callOp CC (callL CC) 36 [.agg [.int .i64 tk, .int .i64 tn, .str ts]] bx = some (.ret (.str s), bx)) ∧ (∀ bx, callOp CC (callL CC) 13 [.agg [.int .i64 tk, .int .i64 tn, .str ts]] bx = some (.ret (.int .i64 0), bx))) (c0 : ck = 0) (q1 : ∀ bx, callOp CC (callL CC) 27 [.agg [.int .i64 k, .int .i64 n, .str x]] bx = some (.ret (.str pt), bx)) (q2 : ∀ bx, callOp CC (callL CC) 25 [.str pt] bx = some (.ret (.tup [.agg [.int .i64 k, .int .i64 n, .str x], .int .i64 0]), bx)) (q3 : ∀ bx, callOp CC (callL CC) 36 [.agg [.int .i64 k, .int .i64 n, .str x]] bx = some (.ret (.str pr), bx)) (q4 : ∀ bx, callOp CC (callL CC) 34 [.str pr] bx = some (.ret (.tup [.agg [.int .i64 k, .int .i64 n, .str x], .int .i64 0]), bx)) : ∃ bx, callL CC 8 [.agg [.int .i64 k, .int .i64 n, .str x], .str s] [] = some (.ret (.bool true), bx) := by
  rw [callL_enter (fn := Tryd.f8) (c := Tryd.f8.body.getD .skip) rfl rfl fat_L20_ValueBack rfl ok_L20_ValueBack (Nat.le_of_ble_eq_true rfl)]
  obtain ⟨tu, htu⟩ := VLs
  have hl1 := len_str x
  have hl2 := len_str s
  have fS : strP .eql s s = some (.bool true) := by rw [strP_eql]; simp
  have ek : ((k == k) && (n == n) && (x == x)) = true := by simp
  subst c0
  by_cases d0 : de = 0
  · obtain ⟨hd1, hd2⟩ := hd d0
    clear hd
    subst d0
    by_cases t0 : te = 0
    · obtain ⟨ht1, ht2⟩ := ht t0
      clear ht
      subst t0
      obtain ⟨ev, eo, so, co, ⟨hev, hco⟩, R⟩ := RULES CC; rw [← hev]
      rw [← hco] at haw hc hD hP q1 q2 q3 q4 hd1 hd2 ht1 ht2
      simp only [fpart, part', Tryd.f8, Option.getD]
      simp (maxSteps := 5000000) only [SA, SB, SD, R, guardAt, binP, intP, indexAddrP, elemsOf, readCells, lenP, lenAt, resultsP, resultP, oneOr, reduceCtorEq, reduceIte, Nat.reduceEqDiff, Nat.reduceAdd, Nat.zero_add, Nat.reduceMul, Nat.reduceLT, Nat.reduceLeDiff, Int.reduceLT, Int.reduceNeg, Int.reduceLE, appendP, appendAt, letGo, setLoc, locVal, Int.reduceToNat, boxCells, und, TG, SE, SC, unP, htu, VLf, eqgV, eqVP, extP, loadR, loadP, storeR, storeK, storeCellsP, laid, lay, setBox, List.set_cons_zero, List.set_cons_succ, List.getElem?_cons_zero, List.getElem?_cons_succ, Option.map_some, Nat.le_refl, List.take_succ_cons, List.take_zero, List.drop_nil, List.filter_nil, List.cons_append, Int.reduceBEq, Int.reduceBNe, Int.reduceGT, Int.reduceGE, Bool.not_true, Bool.not_false, haw, hl1, hl2, hx1, hx2, hc, hD, hP, fS, ek, q1, q2, q3, q4, hd1, hd2, ht1, ht2]
      exact ⟨_, rfl⟩
    · have t0p : (te != 0) = true := by simpa using t0
      clear ht
      obtain ⟨ev, eo, so, co, ⟨hev, hco⟩, R⟩ := RULES CC; rw [← hev]
      rw [← hco] at haw hc hD hP q1 q2 q3 q4 hd1 hd2
      simp only [fpart, part', Tryd.f8, Option.getD]
      simp (maxSteps := 5000000) only [SA, SB, SD, R, guardAt, binP, intP, indexAddrP, elemsOf, readCells, lenP, lenAt, resultsP, resultP, oneOr, reduceCtorEq, reduceIte, Nat.reduceEqDiff, Nat.reduceAdd, Nat.zero_add, Nat.reduceMul, Nat.reduceLT, Nat.reduceLeDiff, Int.reduceLT, Int.reduceNeg, Int.reduceLE, appendP, appendAt, letGo, setLoc, locVal, Int.reduceToNat, boxCells, und, TG, SE, SC, unP, htu, VLf, eqgV, eqVP, extP, loadR, loadP, storeR, storeK, storeCellsP, laid, lay, setBox, List.set_cons_zero, List.set_cons_succ, List.getElem?_cons_zero, List.getElem?_cons_succ, Option.map_some, Nat.le_refl, List.take_succ_cons, List.take_zero, List.drop_nil, List.filter_nil, List.cons_append, Int.reduceBEq, Int.reduceBNe, Int.reduceGT, Int.reduceGE, Bool.not_true, Bool.not_false, haw, hl1, hl2, hx1, hx2, hc, hD, hP, fS, ek, q1, q2, q3, q4, hd1, hd2, t0p]
      exact ⟨_, rfl⟩
  · have d0p : (de != 0) = true := by simpa using d0
    clear hd
    by_cases t0 : te = 0
    · obtain ⟨ht1, ht2⟩ := ht t0
      clear ht
      subst t0
      obtain ⟨ev, eo, so, co, ⟨hev, hco⟩, R⟩ := RULES CC; rw [← hev]
      rw [← hco] at haw hc hD hP q1 q2 q3 q4 ht1 ht2
      simp only [fpart, part', Tryd.f8, Option.getD]
      simp (maxSteps := 5000000) only [SA, SB, SD, R, guardAt, binP, intP, indexAddrP, elemsOf, readCells, lenP, lenAt, resultsP, resultP, oneOr, reduceCtorEq, reduceIte, Nat.reduceEqDiff, Nat.reduceAdd, Nat.zero_add, Nat.reduceMul, Nat.reduceLT, Nat.reduceLeDiff, Int.reduceLT, Int.reduceNeg, Int.reduceLE, appendP, appendAt, letGo, setLoc, locVal, Int.reduceToNat, boxCells, und, TG, SE, SC, unP, htu, VLf, eqgV, eqVP, extP, loadR, loadP, storeR, storeK, storeCellsP, laid, lay, setBox, List.set_cons_zero, List.set_cons_succ, List.getElem?_cons_zero, List.getElem?_cons_succ, Option.map_some, Nat.le_refl, List.take_succ_cons, List.take_zero, List.drop_nil, List.filter_nil, List.cons_append, Int.reduceBEq, Int.reduceBNe, Int.reduceGT, Int.reduceGE, Bool.not_true, Bool.not_false, haw, hl1, hl2, hx1, hx2, hc, hD, hP, fS, ek, q1, q2, q3, q4, d0p, ht1, ht2]
      exact ⟨_, rfl⟩
    · have t0p : (te != 0) = true := by simpa using t0
      clear ht
      obtain ⟨ev, eo, so, co, ⟨hev, hco⟩, R⟩ := RULES CC; rw [← hev]
      rw [← hco] at haw hc hD hP q1 q2 q3 q4
      simp only [fpart, part', Tryd.f8, Option.getD]
      simp (maxSteps := 5000000) only [SA, SB, SD, R, guardAt, binP, intP, indexAddrP, elemsOf, readCells, lenP, lenAt, resultsP, resultP, oneOr, reduceCtorEq, reduceIte, Nat.reduceEqDiff, Nat.reduceAdd, Nat.zero_add, Nat.reduceMul, Nat.reduceLT, Nat.reduceLeDiff, Int.reduceLT, Int.reduceNeg, Int.reduceLE, appendP, appendAt, letGo, setLoc, locVal, Int.reduceToNat, boxCells, und, TG, SE, SC, unP, htu, VLf, eqgV, eqVP, extP, loadR, loadP, storeR, storeK, storeCellsP, laid, lay, setBox, List.set_cons_zero, List.set_cons_succ, List.getElem?_cons_zero, List.getElem?_cons_succ, Option.map_some, Nat.le_refl, List.take_succ_cons, List.take_zero, List.drop_nil, List.filter_nil, List.cons_append, Int.reduceBEq, Int.reduceBNe, Int.reduceGT, Int.reduceGE, Bool.not_true, Bool.not_false, haw, hl1, hl2, hx1, hx2, hc, hD, hP, fS, ek, q1, q2, q3, q4, d0p, t0p]
      exact ⟨_, rfl⟩
theorem back_no (k n : Int) (x s : List UInt8) (ck : Int) (pt pr : List UInt8) (dk dn : Int) (ds : List UInt8) (de : Int) (tk tn : Int) (ts : List UInt8) (te : Int) (haw : ∀ bx, callOp CC (callL CC) 12 [] bx = some (.ret (.bool true), bx)) (hx1 : ¬ (x.length : Int) > 300) (hx2 : ¬ (s.length : Int) > 300) (hc : ∀ bx, callOp CC (callL CC) 13 [.agg [.int .i64 k, .int .i64 n, .str x]] bx = some (.ret (.int .i64 ck), bx)) (hD : ∀ bx, callOp CC (callL CC) 25 [.str s] bx = some (.ret (.tup [.agg [.int .i64 dk, .int .i64 dn, .str ds], .int .i64 de]), bx)) (hP : ∀ bx, callOp CC (callL CC) 34 [.str s] bx = some (.ret (.tup [.agg [.int .i64 tk, .int .i64 tn, .str ts], .int .i64 te]), bx)) (hd : de = 0 → (∀ bx, callOp CC (callL CC) 27 [.agg [.int .i64 dk, .int .i64 dn, .str ds]] bx = some (.ret (.str s), bx)) ∧ (∀ bx, callOp CC (callL CC) 13 [.agg [.int .i64 dk, .int .i64 dn, .str ds]] bx = some (.ret (.int .i64 0), bx))) (ht : te = 0 → (∀ bx, callOp CC (callL CC) 36 [.agg [.int .i64 tk, .int .i64 tn, .str ts]] bx = some (.ret (.str s), bx)) ∧ (∀ bx, callOp CC (callL CC) 13 [.agg [.int .i64 tk, .int .i64 tn, .str ts]] bx = some (.ret (.int .i64 0), bx))) (c0 : ck ≠ 0) : ∃ bx, callL CC 8 [.agg [.int .i64 k, .int .i64 n, .str x], .str s] [] = some (.ret (.bool true), bx) := by
  rw [callL_enter (fn := Tryd.f8) (c := Tryd.f8.body.getD .skip) rfl rfl fat_L20_ValueBack rfl ok_L20_ValueBack (Nat.le_of_ble_eq_true rfl)]
  obtain ⟨tu, htu⟩ := VLs
  have hl1 := len_str x
  have hl2 := len_str s
  have fS : strP .eql s s = some (.bool true) := by rw [strP_eql]; simp
  have ek : ((k == k) && (n == n) && (x == x)) = true := by simp
  have c0p : (ck == 0) = false := by simpa using c0
  by_cases d0 : de = 0
  · obtain ⟨hd1, hd2⟩ := hd d0
    clear hd
    subst d0
    by_cases t0 : te = 0
    · obtain ⟨ht1, ht2⟩ := ht t0
      clear ht
      subst t0
      obtain ⟨ev, eo, so, co, ⟨hev, hco⟩, R⟩ := RULES CC; rw [← hev]
      rw [← hco] at haw hc hD hP hd1 hd2 ht1 ht2
      simp only [fpart, part', Tryd.f8, Option.getD]
      simp (maxSteps := 5000000) only [SA, SB, SD, R, guardAt, binP, intP, indexAddrP, elemsOf, readCells, lenP, lenAt, resultsP, resultP, oneOr, reduceCtorEq, reduceIte, Nat.reduceEqDiff, Nat.reduceAdd, Nat.zero_add, Nat.reduceMul, Nat.reduceLT, Nat.reduceLeDiff, Int.reduceLT, Int.reduceNeg, Int.reduceLE, appendP, appendAt, letGo, setLoc, locVal, Int.reduceToNat, boxCells, und, TG, SE, SC, unP, htu, VLf, eqgV, eqVP, extP, loadR, loadP, storeR, storeK, storeCellsP, laid, lay, setBox, List.set_cons_zero, List.set_cons_succ, List.getElem?_cons_zero, List.getElem?_cons_succ, Option.map_some, Nat.le_refl, List.take_succ_cons, List.take_zero, List.drop_nil, List.filter_nil, List.cons_append, Int.reduceBEq, Int.reduceBNe, Int.reduceGT, Int.reduceGE, Bool.not_true, Bool.not_false, haw, hl1, hl2, hx1, hx2, hc, c0p, hD, hP, fS, hd1, hd2, ht1, ht2]
      exact ⟨_, rfl⟩
    · have t0p : (te != 0) = true := by simpa using t0
      clear ht
      obtain ⟨ev, eo, so, co, ⟨hev, hco⟩, R⟩ := RULES CC; rw [← hev]
      rw [← hco] at haw hc hD hP hd1 hd2
      simp only [fpart, part', Tryd.f8, Option.getD]
      simp (maxSteps := 5000000) only [SA, SB, SD, R, guardAt, binP, intP, indexAddrP, elemsOf, readCells, lenP, lenAt, resultsP, resultP, oneOr, reduceCtorEq, reduceIte, Nat.reduceEqDiff, Nat.reduceAdd, Nat.zero_add, Nat.reduceMul, Nat.reduceLT, Nat.reduceLeDiff, Int.reduceLT, Int.reduceNeg, Int.reduceLE, appendP, appendAt, letGo, setLoc, locVal, Int.reduceToNat, boxCells, und, TG, SE, SC, unP, htu, VLf, eqgV, eqVP, extP, loadR, loadP, storeR, storeK, storeCellsP, laid, lay, setBox, List.set_cons_zero, List.set_cons_succ, List.getElem?_cons_zero, List.getElem?_cons_succ, Option.map_some, Nat.le_refl, List.take_succ_cons, List.take_zero, List.drop_nil, List.filter_nil, List.cons_append, Int.reduceBEq, Int.reduceBNe, Int.reduceGT, Int.reduceGE, Bool.not_true, Bool.not_false, haw, hl1, hl2, hx1, hx2, hc, c0p, hD, hP, fS, hd1, hd2, t0p]
      exact ⟨_, rfl⟩
  · have d0p : (de != 0) = true := by simpa using d0
    clear hd
    by_cases t0 : te = 0
    · obtain ⟨ht1, ht2⟩ := ht t0
      clear ht
      subst t0
      obtain ⟨ev, eo, so, co, ⟨hev, hco⟩, R⟩ := RULES CC; rw [← hev]
      rw [← hco] at haw hc hD hP ht1 ht2
      simp only [fpart, part', Tryd.f8, Option.getD]
      simp (maxSteps := 5000000) only [SA, SB, SD, R, guardAt, binP, intP, indexAddrP, elemsOf, readCells, lenP, lenAt, resultsP, resultP, oneOr, reduceCtorEq, reduceIte, Nat.reduceEqDiff, Nat.reduceAdd, Nat.zero_add, Nat.reduceMul, Nat.reduceLT, Nat.reduceLeDiff, Int.reduceLT, Int.reduceNeg, Int.reduceLE, appendP, appendAt, letGo, setLoc, locVal, Int.reduceToNat, boxCells, und, TG, SE, SC, unP, htu, VLf, eqgV, eqVP, extP, loadR, loadP, storeR, storeK, storeCellsP, laid, lay, setBox, List.set_cons_zero, List.set_cons_succ, List.getElem?_cons_zero, List.getElem?_cons_succ, Option.map_some, Nat.le_refl, List.take_succ_cons, List.take_zero, List.drop_nil, List.filter_nil, List.cons_append, Int.reduceBEq, Int.reduceBNe, Int.reduceGT, Int.reduceGE, Bool.not_true, Bool.not_false, haw, hl1, hl2, hx1, hx2, hc, c0p, hD, hP, fS, d0p, ht1, ht2]
      exact ⟨_, rfl⟩
    · have t0p : (te != 0) = true := by simpa using t0
      clear ht
      obtain ⟨ev, eo, so, co, ⟨hev, hco⟩, R⟩ := RULES CC; rw [← hev]
      rw [← hco] at haw hc hD hP
      simp only [fpart, part', Tryd.f8, Option.getD]
      simp (maxSteps := 5000000) only [SA, SB, SD, R, guardAt, binP, intP, indexAddrP, elemsOf, readCells, lenP, lenAt, resultsP, resultP, oneOr, reduceCtorEq, reduceIte, Nat.reduceEqDiff, Nat.reduceAdd, Nat.zero_add, Nat.reduceMul, Nat.reduceLT, Nat.reduceLeDiff, Int.reduceLT, Int.reduceNeg, Int.reduceLE, appendP, appendAt, letGo, setLoc, locVal, Int.reduceToNat, boxCells, und, TG, SE, SC, unP, htu, VLf, eqgV, eqVP, extP, loadR, loadP, storeR, storeK, storeCellsP, laid, lay, setBox, List.set_cons_zero, List.set_cons_succ, List.getElem?_cons_zero, List.getElem?_cons_succ, Option.map_some, Nat.le_refl, List.take_succ_cons, List.take_zero, List.drop_nil, List.filter_nil, List.cons_append, Int.reduceBEq, Int.reduceBNe, Int.reduceGT, Int.reduceGE, Bool.not_true, Bool.not_false, haw, hl1, hl2, hx1, hx2, hc, c0p, hD, hP, fS, d0p, t0p]
      exact ⟨_, rfl⟩
theorem law_ValueBack (v : Vl) (hv : okVl v) (s : List UInt8) (_ : s.length ≤ maxLen) : ∃ bx, callL CC 8 [vlV v, .str s] [] = some (.ret (.bool true), bx) := by
  have haw := op_awake
  have hn : inI v.2.1 := hv.2.1
  have hl1 := len_str v.2.2
  have hl2 := len_str s
  by_cases c1 : (v.2.2.length : Int) > 300
  · obtain ⟨tu, htu⟩ := VLs
    unfold vlV
    rw [callL_enter (fn := Tryd.f8) (c := Tryd.f8.body.getD .skip) rfl rfl fat_L20_ValueBack rfl ok_L20_ValueBack (Nat.le_of_ble_eq_true rfl)]
    obtain ⟨ev, eo, so, co, ⟨hev, hco⟩, R⟩ := RULES CC; rw [← hev]
    rw [← hco] at haw
    simp only [fpart, part', Tryd.f8, Option.getD]
    simp (maxSteps := 5000000) only [SA, SB, SD, R, guardAt, binP, intP, indexAddrP, elemsOf, readCells, lenP, lenAt, resultsP, resultP, oneOr, reduceCtorEq, reduceIte, Nat.reduceEqDiff, Nat.reduceAdd, Nat.zero_add, Nat.reduceMul, Nat.reduceLT, Nat.reduceLeDiff, Int.reduceLT, Int.reduceNeg, Int.reduceLE, appendP, appendAt, letGo, setLoc, locVal, Int.reduceToNat, boxCells, und, TG, SE, SC, unP, htu, VLf, eqgV, eqVP, extP, loadR, loadP, storeR, storeK, storeCellsP, laid, lay, setBox, List.set_cons_zero, List.set_cons_succ, List.getElem?_cons_zero, List.getElem?_cons_succ, Option.map_some, Nat.le_refl, List.take_succ_cons, List.take_zero, List.drop_nil, List.filter_nil, List.cons_append, Int.reduceBEq, Int.reduceBNe, Int.reduceGT, Int.reduceGE, Bool.not_true, Bool.not_false, hl1, hl2, c1, haw]
    exact ⟨_, rfl⟩
  by_cases c2 : (s.length : Int) > 300
  · obtain ⟨tu, htu⟩ := VLs
    unfold vlV
    rw [callL_enter (fn := Tryd.f8) (c := Tryd.f8.body.getD .skip) rfl rfl fat_L20_ValueBack rfl ok_L20_ValueBack (Nat.le_of_ble_eq_true rfl)]
    obtain ⟨ev, eo, so, co, ⟨hev, hco⟩, R⟩ := RULES CC; rw [← hev]
    rw [← hco] at haw
    simp only [fpart, part', Tryd.f8, Option.getD]
    simp (maxSteps := 5000000) only [SA, SB, SD, R, guardAt, binP, intP, indexAddrP, elemsOf, readCells, lenP, lenAt, resultsP, resultP, oneOr, reduceCtorEq, reduceIte, Nat.reduceEqDiff, Nat.reduceAdd, Nat.zero_add, Nat.reduceMul, Nat.reduceLT, Nat.reduceLeDiff, Int.reduceLT, Int.reduceNeg, Int.reduceLE, appendP, appendAt, letGo, setLoc, locVal, Int.reduceToNat, boxCells, und, TG, SE, SC, unP, htu, VLf, eqgV, eqVP, extP, loadR, loadP, storeR, storeK, storeCellsP, laid, lay, setBox, List.set_cons_zero, List.set_cons_succ, List.getElem?_cons_zero, List.getElem?_cons_succ, Option.map_some, Nat.le_refl, List.take_succ_cons, List.take_zero, List.drop_nil, List.filter_nil, List.cons_append, Int.reduceBEq, Int.reduceBNe, Int.reduceGT, Int.reduceGE, Bool.not_true, Bool.not_false, hl1, hl2, c1, c2, haw]
    exact ⟨_, rfl⟩
  have hD := op_value_Decode s (by omega)
  have hP := op_value_Parse s (by omega)
  have rd := rd2_dc s
  have rt := rd2_ps s
  have hd : (dcV s).2 = 0 → (∀ bx, callOp CC (callL CC) 27 [vlV (dcV s).1] bx = some (.ret (.str s), bx)) ∧ (∀ bx, callOp CC (callL CC) 13 [vlV (dcV s).1] bx = some (.ret (.int .i64 0), bx)) := fun h => by
    obtain ⟨a, b, c⟩ := rd h
    have p := op_value_Put (dcV s).1 a
    rw [b] at p
    have q := op_value_Check (dcV s).1
    rw [c] at q
    exact ⟨p, q⟩
  have ht : (psV s).2 = 0 → (∀ bx, callOp CC (callL CC) 36 [vlV (psV s).1] bx = some (.ret (.str s), bx)) ∧ (∀ bx, callOp CC (callL CC) 13 [vlV (psV s).1] bx = some (.ret (.int .i64 0), bx)) := fun h => by
    obtain ⟨a, b, c⟩ := rt h
    have p := op_value_Print (psV s).1 a
    rw [b] at p
    have q := op_value_Check (psV s).1
    rw [c] at q
    exact ⟨p, q⟩
  have hc := op_value_Check v
  clear rd rt
  rcases hdr : dcV s with ⟨⟨dk, dn, ds⟩, de⟩
  rcases htr : psV s with ⟨⟨tk, tn, ts⟩, te⟩
  rw [hdr] at hD hd
  rw [htr] at hP ht
  by_cases c0 : ckV v = 0
  · have q1 := op_value_Put v hn
    have q2 := op_value_Decode (ptV v) (by have := pt_len v; omega)
    rw [dc_pt c0] at q2
    have q3 := op_value_Print v hn
    have q4 := op_value_Parse (prV v) (by have := pr_len v hn; omega)
    rw [ps_pr c0] at q4
    obtain ⟨k, n, x⟩ := v
    exact back_ok k n x s _ _ _ dk dn ds de tk tn ts te haw c1 c2 hc hD hP hd ht c0 q1 q2 q3 q4
  · obtain ⟨k, n, x⟩ := v
    exact back_no k n x s _ [] [] dk dn ds de tk tn ts te haw c1 c2 hc hD hP hd ht c0
end Go.HH
