/-
  Entries as pure values; find and chain, in plain words; what 'Chain' and 'Clone' are taken for.
-/
import Derived.Test.YtbbhmdpbojoheaaDoorShape
namespace Go.HH
open Go
set_option maxRecDepth 100000
set_option linter.unusedSimpArgs false
set_option linter.unusedVariables false
/-- an entry -/
structure En where
  no : Int
  tick : Int
  kind : Int
  key : Int × List UInt8 × List UInt8
  val : Int × Int × List UInt8
  cause : Int × List UInt8 × Int
  par : Int
def enV (t : En) : PV := .agg [.int .i64 t.no, .int .i64 t.tick, .int .i64 t.kind, .int .i64 t.key.1, .str t.key.2.1, .str t.key.2.2, .int .i64 t.val.1, .int .i64 t.val.2.1, .str t.val.2.2, .int .i64 t.cause.1, .str t.cause.2.1, .int .i64 t.cause.2.2, .int .i64 t.par]
/-- a log -/
abbrev ens (l : List En) : List PV := l.map enV
/-- the position of the first entry with a number, from a position on; or -1 -/
def fdI (l : List En) (no : Int) : Nat → Int
  | i => match l.findIdx? (fun e => e.no == no) with
    | some j => ((i + j : Nat) : Int)
    | none => -1
theorem fdI_nil (no : Int) (i : Nat) : fdI [] no i = -1 := rfl
theorem fdI_cons (e : En) (l : List En) (no : Int) (i : Nat) : fdI (e :: l) no i = if e.no = no then (i : Int) else fdI l no (i + 1) := by
  unfold fdI
  rw [List.findIdx?_cons]
  by_cases h : e.no = no
  · have : (e.no == no) = true := by simpa using h
    rw [this, if_pos h]
    rfl
  · have : (e.no == no) = false := by simpa using h
    rw [this, if_neg h]
    cases hx : l.findIdx? (fun e => e.no == no) with
    | none => rfl
    | some j => simp only [Bool.false_eq_true, if_false, Option.map_some]; congr 1; omega
/-- what is found -/
theorem fdI_get {l : List En} {no : Int} : (fdI l no 0 = -1 ∧ l.find? (fun e => e.no == no) = none) ∨ ∃ (j : Nat) (e : En), fdI l no 0 = (j : Int) ∧ l[j]? = some e ∧ e.no = no ∧ j < l.length ∧ l.find? (fun e => e.no == no) = some e := by
  suffices h : ∀ i, (fdI l no i = -1 ∧ l.find? (fun e => e.no == no) = none) ∨ ∃ (j : Nat) (e : En), fdI l no i = ((i + j : Nat) : Int) ∧ l[j]? = some e ∧ e.no = no ∧ j < l.length ∧ l.find? (fun e => e.no == no) = some e by
    rcases h 0 with h | ⟨j, e, h1, h2⟩
    · exact .inl h
    · exact .inr ⟨j, e, by rw [h1, Nat.zero_add], h2⟩
  induction l with
  | nil => intro i; exact .inl ⟨rfl, rfl⟩
  | cons a l ih =>
    intro i
    rw [fdI_cons]
    by_cases h : a.no = no
    · have hb : (a.no == no) = true := by simpa using h
      refine .inr ⟨0, a, by rw [if_pos h]; rfl, rfl, h, by simp, ?_⟩
      rw [List.find?_cons, hb]
    · have hb : (a.no == no) = false := by simpa using h
      rw [if_neg h, List.find?_cons, hb]
      rcases ih (i + 1) with ⟨h1, h2⟩ | ⟨j, e, h1, h2, h3, h4, h5⟩
      · exact .inl ⟨h1, h2⟩
      · exact .inr ⟨j + 1, e, by rw [h1]; congr 1; omega, by simpa using h2, h3, by simp; omega, h5⟩
/-- an entry and its ancestors -/
def chN : Nat → List En → Int → List En
  | 0, _, _ => []
  | m + 1, l, no => match l.find? (fun e => e.no == no) with
    | none => []
    | some e => e :: (if e.par < 1 ∨ e.no ≤ e.par then [] else chN m l e.par)
def chT (l : List En) (no : Int) : List En := chN (no.toNat + 1) l no
theorem find_no {l : List En} {no : Int} {e : En} (h : l.find? (fun e => e.no == no) = some e) : e.no = no := by
  have := List.find?_some h
  simpa using this
theorem chN_same (l : List En) : ∀ (m m' : Nat) (no : Int), no.toNat < m → no.toNat < m' → chN m l no = chN m' l no := by
  intro m
  induction m with
  | zero => intro m' no h; omega
  | succ m ih =>
    intro m' no h h'
    cases m' with
    | zero => omega
    | succ m' =>
      unfold chN
      cases hf : l.find? (fun e => e.no == no) with
      | none => rfl
      | some e =>
        have hn := find_no hf
        simp only
        by_cases hs : e.par < 1 ∨ e.no ≤ e.par
        · rw [if_pos hs, if_pos hs]
        · rw [if_neg hs, if_neg hs, ih m' e.par (by omega) (by omega)]
theorem chT_none {l : List En} {no : Int} (h : l.find? (fun e => e.no == no) = none) : chT l no = [] := by
  unfold chT chN
  rw [h]
theorem chT_stop {l : List En} {no : Int} {e : En} (h : l.find? (fun e => e.no == no) = some e) (hs : e.par < 1 ∨ e.no ≤ e.par) : chT l no = [e] := by
  unfold chT chN
  rw [h]
  simp only
  rw [if_pos hs]
theorem chT_go {l : List En} {no : Int} {e : En} (h : l.find? (fun e => e.no == no) = some e) (hs : ¬ (e.par < 1 ∨ e.no ≤ e.par)) : chT l no = e :: chT l e.par := by
  have hn := find_no h
  conv => lhs; unfold chT chN
  rw [h]
  simp only
  rw [if_neg hs]
  unfold chT
  rw [chN_same l _ (e.par.toNat + 1) e.par (by omega) (by omega)]
theorem chT_mem {l : List En} : ∀ (m : Nat) (no : Int), no.toNat ≤ m → ∀ e ∈ chT l no, e ∈ l := by
  intro m
  induction m with
  | zero =>
    intro no hm e he
    cases hf : l.find? (fun e => e.no == no) with
    | none => rw [chT_none hf] at he; cases he
    | some a =>
      have hn := find_no hf
      rw [chT_stop hf (by omega)] at he
      rw [List.mem_singleton.1 he]
      exact List.mem_of_find?_eq_some hf
  | succ m ih =>
    intro no hm e he
    cases hf : l.find? (fun e => e.no == no) with
    | none => rw [chT_none hf] at he; cases he
    | some a =>
      have hn := find_no hf
      by_cases hs : a.par < 1 ∨ a.no ≤ a.par
      · rw [chT_stop hf hs] at he
        rw [List.mem_singleton.1 he]
        exact List.mem_of_find?_eq_some hf
      · rw [chT_go hf hs] at he
        rcases List.mem_cons.1 he with rfl | he
        · exact List.mem_of_find?_eq_some hf
        · exact ih a.par (by omega) e he
/-- the chain is no longer than the log -/
theorem chT_sorted {l : List En} : ∀ (m : Nat) (no : Int), no.toNat ≤ m → List.Pairwise (fun a b => b.no < a.no) (chT l no) ∧ (∀ e ∈ chT l no, e.no ≤ no) ∧ (∀ e r, chT l no = e :: r → e.no = no) := by
  intro m
  induction m with
  | zero =>
    intro no hm
    cases hf : l.find? (fun e => e.no == no) with
    | none => rw [chT_none hf]; simp
    | some a =>
      have hn := find_no hf
      rw [chT_stop hf (by omega)]
      refine ⟨List.pairwise_singleton _ _, fun e he => ?_, fun e r h => ?_⟩
      · rw [List.mem_singleton.1 he]; omega
      · injection h with h; rw [← h]; exact hn
  | succ m ih =>
    intro no hm
    cases hf : l.find? (fun e => e.no == no) with
    | none => rw [chT_none hf]; simp
    | some a =>
      have hn := find_no hf
      by_cases hs : a.par < 1 ∨ a.no ≤ a.par
      · rw [chT_stop hf hs]
        refine ⟨List.pairwise_singleton _ _, fun e he => ?_, fun e r h => ?_⟩
        · rw [List.mem_singleton.1 he]; omega
        · injection h with h; rw [← h]; exact hn
      · rw [chT_go hf hs]
        obtain ⟨h1, h2, h3⟩ := ih a.par (by omega)
        refine ⟨List.pairwise_cons.2 ⟨fun b hb => ?_, h1⟩, fun e he => ?_, fun e r h => ?_⟩
        · have := h2 b hb; omega
        · rcases List.mem_cons.1 he with rfl | he
          · omega
          · have := h2 e he; omega
        · injection h with h; rw [← h]; exact hn
theorem nodup_len {α : Type} : ∀ (a b : List α), a.Nodup → (∀ x ∈ a, x ∈ b) → a.length ≤ b.length
  | [], b, _, _ => Nat.zero_le _
  | x :: a, b, hn, hs => by
    obtain ⟨s, t, rfl⟩ := List.append_of_mem (hs x List.mem_cons_self)
    obtain ⟨h1, h2⟩ := List.nodup_cons.1 hn
    have := nodup_len a (s ++ t) h2 fun y hy => by
      have h := hs y (List.mem_cons_of_mem _ hy)
      rw [List.mem_append, List.mem_cons] at h
      rw [List.mem_append]
      rcases h with h | rfl | h
      · exact .inl h
      · exact absurd hy h1
      · exact .inr h
    simp at this ⊢
    omega
theorem chT_length (l : List En) (no : Int) : (chT l no).length ≤ l.length := by
  obtain ⟨h1, _, _⟩ := chT_sorted (l := l) no.toNat no (Nat.le_refl _)
  have hm := chT_mem (l := l) no.toNat no (Nat.le_refl _)
  have hnd : (chT l no).Nodup := h1.imp (fun {a b} h e => by rw [e] at h; omega)
  exact nodup_len _ _ hnd hm
/-- the chain goes from entry to parent -/
theorem chT_next {l : List En} : ∀ (m : Nat) (no : Int), no.toNat ≤ m → ∀ i (a b : En), (chT l no)[i]? = some a → (chT l no)[i + 1]? = some b → b.no = a.par ∧ b.no < a.no := by
  intro m
  induction m with
  | zero =>
    intro no hm i a b h h'
    cases hf : l.find? (fun e => e.no == no) with
    | none => rw [chT_none hf] at h; simp at h
    | some e =>
      have hn := find_no hf
      rw [chT_stop hf (by omega)] at h'
      simp at h'
  | succ m ih =>
    intro no hm i a b h h'
    cases hf : l.find? (fun e => e.no == no) with
    | none => rw [chT_none hf] at h; simp at h
    | some e =>
      have hn := find_no hf
      by_cases hs : e.par < 1 ∨ e.no ≤ e.par
      · rw [chT_stop hf hs] at h'
        simp at h'
      · rw [chT_go hf hs] at h h'
        cases i with
        | zero =>
          simp only [List.getElem?_cons_zero, Option.some.injEq] at h
          subst h
          simp only [Nat.zero_add, List.getElem?_cons_succ] at h'
          obtain ⟨_, _, h3⟩ := chT_sorted (l := l) e.par.toNat e.par (Nat.le_refl _)
          cases hc : chT l e.par with
          | nil => rw [hc] at h'; simp at h'
          | cons x r =>
            rw [hc] at h'
            simp only [List.getElem?_cons_zero, Option.some.injEq] at h'
            subst h'
            have := h3 x r hc
            omega
        | succ i =>
          simp only [List.getElem?_cons_succ] at h h'
          exact ih e.par (by omega) i a b h h'
/-- an entry, read back -/
def decEn : PV → Option En
  | .agg [.int .i64 a, .int .i64 b, .int .i64 c, .int .i64 d, .str e, .str f, .int .i64 g, .int .i64 h, .str i, .int .i64 j, .str k, .int .i64 m, .int .i64 n] => some ⟨a, b, c, (d, e, f), (g, h, i), (j, k, m), n⟩
  | _ => none
def decL : List PV → Option (List En)
  | [] => some []
  | p :: r => match decEn p, decL r with
    | some e, some l => some (e :: l)
    | _, _ => none
theorem decEn_some {p : PV} {e : En} (h : decEn p = some e) : p = enV e := by
  unfold decEn at h
  split at h
  · injection h with h; subst h; rfl
  · cases h
theorem decEn_en (e : En) : decEn (enV e) = some e := rfl
theorem decL_some : ∀ {xs : List PV} {l : List En}, decL xs = some l → xs = ens l
  | [], l, h => by injection h with h; subst h; rfl
  | p :: r, l, h => by
    unfold decL at h
    split at h
    · rename_i e l' h1 h2
      injection h with h
      subst h
      rw [decEn_some h1, decL_some h2]
      rfl
    · cases h
theorem decL_ens : ∀ l : List En, decL (ens l) = some l
  | [] => rfl
  | e :: r => by
    show (match decEn (enV e), decL (ens r) with
      | some e, some l => some (e :: l)
      | _, _ => none) = _
    rw [decEn_en, decL_ens r]
/-- Chain, by its contract -/
def chP : List PV → Option PV
  | [.sl xs, .int .i64 no] => match decL xs with
    | some l => if l.length * 136 ≤ 140737488351232 then some (.sl (ens (chT l no))) else none
    | none => none
  | _ => none
/-- Clone, by its contract -/
def clP : List PV → Option PV
  | [.sl xs] => match decL xs with
    | some l => if l.length * 136 ≤ 140737488351232 then some (.sl (ens l)) else none
    | none => none
  | _ => none
theorem chP_inv {args : List PV} {r : PV} (h : chP args = some r) : ∃ l no, args = [.sl (ens l), .int .i64 no] ∧ l.length * 136 ≤ 140737488351232 ∧ r = .sl (ens (chT l no)) := by
  unfold chP at h
  split at h
  · split at h
    · rename_i l hl
      split at h
      · rename_i hb
        injection h with h
        exact ⟨l, _, by rw [decL_some hl], hb, h.symm⟩
      · cases h
    · cases h
  · cases h
theorem clP_inv {args : List PV} {r : PV} (h : clP args = some r) : ∃ l, args = [.sl (ens l)] ∧ l.length * 136 ≤ 140737488351232 ∧ r = .sl (ens l) := by
  unfold clP at h
  split at h
  · split at h
    · rename_i l hl
      split at h
      · rename_i hb
        injection h with h
        exact ⟨l, by rw [decL_some hl], hb, h.symm⟩
      · cases h
    · cases h
  · cases h
theorem chP_ens (l : List En) (no : Int) (h : l.length * 136 ≤ 140737488351232) : chP [.sl (ens l), .int .i64 no] = some (.sl (ens (chT l no))) := by
  show (match decL (ens l) with
    | some l => if l.length * 136 ≤ 140737488351232 then some (PV.sl (ens (chT l no))) else none
    | none => none) = _
  rw [decL_ens]
  exact if_pos h
theorem clP_ens (l : List En) (h : l.length * 136 ≤ 140737488351232) : clP [.sl (ens l)] = some (.sl (ens l)) := by
  show (match decL (ens l) with
    | some l => if l.length * 136 ≤ 140737488351232 then some (PV.sl (ens l)) else none
    | none => none) = _
  rw [decL_ens]
  exact if_pos h
end Go.HH
