/-
  Logs, in plain words: check, trim, count, last.
-/
import Derived.Test.YtbbhmdpbojoheaaDoorY0
namespace Go.HH
open Go Go.Proofs
set_option maxRecDepth 100000
set_option linter.unusedSimpArgs false
set_option linter.unusedVariables false
/-- what Check says of a log, behind a number and a tick -/
def ckE : List En → Int → Int → Int
  | [], _, _ => 0
  | e :: r, no, tick => if e.kind < 1 ∨ 11 < e.kind then 7 else if e.no ≤ no ∨ e.tick < tick then 14 else if e.par < 0 ∨ e.no ≤ e.par then 4 else ckE r e.no e.tick
theorem ckE_cons {e : En} {r : List En} {no tick : Int} (h : ckE (e :: r) no tick = 0) : 1 ≤ e.kind ∧ e.kind ≤ 11 ∧ no < e.no ∧ tick ≤ e.tick ∧ 0 ≤ e.par ∧ e.par < e.no ∧ ckE r e.no e.tick = 0 := by
  unfold ckE at h
  split at h
  · exact absurd h (by decide)
  · split at h
    · exact absurd h (by decide)
    · split at h
      · exact absurd h (by decide)
      · exact ⟨by omega, by omega, by omega, by omega, by omega, by omega, h⟩
theorem ckE_le : ∀ {l : List En} {no tick no' tick' : Int}, no' ≤ no → tick' ≤ tick → ckE l no tick = 0 → ckE l no' tick' = 0
  | [], _, _, _, _, _, _, _ => rfl
  | e :: r, no, tick, no', tick', h1, h2, h => by
    obtain ⟨a1, a2, a3, a4, a5, a6, a7⟩ := ckE_cons h
    unfold ckE
    rw [if_neg (by omega), if_neg (by omega), if_neg (by omega)]
    exact a7
theorem ckE_drop : ∀ {l : List En} {no tick : Int} (n : Nat), 0 ≤ no → 0 ≤ tick → ckE l no tick = 0 → ckE (l.drop n) 0 0 = 0
  | l, no, tick, 0, h1, h2, h => ckE_le h1 h2 h
  | [], no, tick, n + 1, h1, h2, h => rfl
  | e :: r, no, tick, n + 1, h1, h2, h => by
    obtain ⟨a1, a2, a3, a4, a5, a6, a7⟩ := ckE_cons h
    exact ckE_drop (l := r) n (by omega) (by omega) a7
/-- numbers ascend, ticks do not fall -/
theorem ckE_all : ∀ {l : List En} {no tick : Int}, ckE l no tick = 0 → ∀ e ∈ l, no < e.no ∧ tick ≤ e.tick ∧ 1 ≤ e.kind ∧ e.kind ≤ 11
  | [], _, _, _, e, he => by cases he
  | a :: r, no, tick, h, e, he => by
    obtain ⟨a1, a2, a3, a4, a5, a6, a7⟩ := ckE_cons h
    rcases List.mem_cons.1 he with rfl | he
    · exact ⟨a3, a4, a1, a2⟩
    · have := ckE_all a7 e he
      exact ⟨by omega, by omega, this.2.2.1, this.2.2.2⟩
theorem ckE_order : ∀ {l : List En} {no tick : Int}, ckE l no tick = 0 → ∀ a ∈ l, ∀ b ∈ l, b.no < a.no → b.tick ≤ a.tick
  | [], _, _, _, a, ha, _, _, _ => by cases ha
  | x :: r, no, tick, h, a, ha, b, hb, hlt => by
    obtain ⟨a1, a2, a3, a4, a5, a6, a7⟩ := ckE_cons h
    rcases List.mem_cons.1 ha with ea | ha
    · rcases List.mem_cons.1 hb with eb | hb
      · rw [ea, eb] at hlt; omega
      · have := ckE_all a7 b hb; rw [ea] at hlt; omega
    · rcases List.mem_cons.1 hb with eb | hb
      · have := ckE_all a7 a ha; rw [eb]; omega
      · exact ckE_order a7 a ha b hb hlt
/-- how many entries are of a kind -/
def cnT : List En → Int → Nat
  | [], _ => 0
  | e :: r, k => (if e.kind = k then 1 else 0) + cnT r k
theorem cnT_le (l : List En) (k : Int) : cnT l k ≤ l.length := by
  induction l with
  | nil => exact Nat.le_refl _
  | cons e r ih => unfold cnT; rw [List.length_cons]; split <;> omega
theorem cnT_drop (l : List En) (k : Int) (i : Nat) (e : En) (h : l[i]? = some e) : cnT (l.drop i) k = (if e.kind = k then 1 else 0) + cnT (l.drop (i + 1)) k := by
  obtain ⟨hi, he⟩ := List.getElem?_eq_some_iff.1 h
  rw [List.drop_eq_getElem_cons hi, he, cnT]
/-- the counts of the kinds up to one -/
def sumK (l : List En) : Nat → Nat
  | 0 => 0
  | k + 1 => sumK l k + cnT l ((k + 1 : Nat) : Int)
theorem sumK_cons (e : En) (r : List En) (k : Nat) : sumK (e :: r) k = (if 1 ≤ e.kind ∧ e.kind ≤ k then 1 else 0) + sumK r k := by
  induction k with
  | zero => simp only [sumK]; rw [if_neg (by omega)]
  | succ k ih =>
    simp only [sumK, cnT]
    rw [ih]
    by_cases h1 : 1 ≤ e.kind ∧ e.kind ≤ (k : Int)
    · have p1 : 1 ≤ e.kind ∧ e.kind ≤ ((k + 1 : Nat) : Int) := by omega
      have p2 : ¬ e.kind = ((k + 1 : Nat) : Int) := by omega
      rw [if_pos h1, if_pos p1, if_neg p2]; omega
    · by_cases h2 : e.kind = ((k + 1 : Nat) : Int)
      · have p1 : 1 ≤ e.kind ∧ e.kind ≤ ((k + 1 : Nat) : Int) := by omega
        rw [if_neg h1, if_pos h2, if_pos p1]; omega
      · have p1 : ¬ (1 ≤ e.kind ∧ e.kind ≤ ((k + 1 : Nat) : Int)) := by omega
        rw [if_neg h1, if_neg h2, if_neg p1]; omega
theorem sumK_all : ∀ {l : List En}, (∀ e ∈ l, 1 ≤ e.kind ∧ e.kind ≤ 11) → sumK l 11 = l.length
  | [], _ => rfl
  | e :: r, h => by
    have p : 1 ≤ e.kind ∧ e.kind ≤ ((11 : Nat) : Int) := h e List.mem_cons_self
    rw [sumK_cons, sumK_all (fun x hx => h x (List.mem_cons_of_mem _ hx)), if_pos p, List.length_cons]; omega
/-- the entries that Trim leaves -/
def trN (len : Nat) (n : Int) : Nat := if n ≤ 0 then len else if (len : Int) ≤ n then 0 else len - n.toNat
def trT (l : List En) (n : Int) : List En := l.drop (trN l.length n)
/-- the last entry about an attribute -/
def lsC (e : En) (k : Ky) : Bool := (e.kind == 1 || e.kind == 4 || e.kind == 5) && (e.key.1 == k.1 && (e.key.2.1 == k.2.1 && e.key.2.2 == k.2.2))
def lsN (l : List En) (k : Ky) : Nat → Option En
  | 0 => none
  | i + 1 => match l[i]? with
    | none => none
    | some e => if lsC e k then some e else lsN l k i
end Go.HH
