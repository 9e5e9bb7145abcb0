/-
  Texts of expressions, in plain words: all bytes of the text of a valid expression are from 32 to 126.
-/
import Derived.Test.YthjcaihemgllaaaDoorD5
namespace Go.HH
open Go Go.Proofs
set_option maxRecDepth 100000
set_option linter.unusedSimpArgs false
set_option linter.unusedVariables false
/-- a byte that may stand within a line -/
def okB (c : UInt8) : Bool := decide (32 ≤ c.toNat) && decide (c.toNat ≤ 126)
def okL (l : List UInt8) : Prop := l.all okB = true
theorem okL_of {l : List UInt8} (h : l.all okB = true) : okL l := h
theorem okL_nil : okL [] := rfl
theorem okL_app {a b : List UInt8} (h : okL a) (h' : okL b) : okL (a ++ b) := by
  unfold okL at *
  rw [List.all_append, h, h']
  rfl
theorem okL_cat {a b : List UInt8} (h : okL a) (h' : okL b) : okL (cat a b) := okL_app h h'
theorem okL_vAll : ∀ (i : Nat) (s : List UInt8), vAll i s = true → okL s
  | _, [], _ => rfl
  | i, c :: r, h => by
    unfold vAll okC at h
    rw [Bool.and_eq_true] at h
    have h1 := of_decide_eq_true h.1
    have h2 := okL_vAll (i + 1) r h.2
    unfold okL at h2 ⊢
    rw [List.all_cons, Bool.and_eq_true]
    refine ⟨?_, h2⟩
    unfold okB
    rw [Bool.and_eq_true]
    exact ⟨decide_eq_true (by omega), decide_eq_true (by omega)⟩
theorem okL_valB {s : List UInt8} (h : valB s = true) : okL s := by
  unfold valB at h
  rw [Bool.and_eq_true] at h
  exact okL_vAll 0 s h.2
theorem okB_digF : ∀ u : _root_.Fin 10, okB (UInt8.ofNat (48 + u.val)) = true := by decide +kernel
theorem okB_dig {u : Nat} (h : u < 10) : okB (UInt8.ofNat (48 + u)) = true := okB_digF ⟨u, h⟩
theorem okL_one {c : UInt8} (h : okB c = true) : okL [c] := by
  unfold okL
  rw [List.all_cons, h]
  rfl
theorem okL_cons {c : UInt8} {l : List UInt8} (h : okB c = true) (h' : okL l) : okL (c :: l) := by
  unfold okL at *
  rw [List.all_cons, h, h']
  rfl
theorem okL_dec (u : Nat) : okL (Lib.decDigits u) := by
  induction u using Nat.strongRecOn with
  | ind u ih =>
    rw [Lib.decDigits]
    split
    · rename_i h
      exact okL_one (okB_dig h)
    · rename_i h
      exact okL_app (ih (u / 10) (by omega)) (okL_one (okB_dig (Nat.mod_lt _ (by omega))))
theorem okL_itoa (n : Int) : okL (Lib.itoa n) := by
  unfold Lib.itoa
  split
  · exact okL_cons rfl (okL_dec _)
  · exact okL_dec _
theorem okL_formF : ∀ n : _root_.Fin 256, (formN n.val).all okB = true := by decide +kernel
theorem okL_form (c : UInt8) : okL (formL c) := okL_formF ⟨c.toNat, c.toNat_lt⟩
theorem okL_flat : ∀ s : List UInt8, okL (s.flatMap formL)
  | [] => rfl
  | c :: r => by
    rw [List.flatMap_cons]
    exact okL_app (okL_form c) (okL_flat r)
theorem okL_quote (s : List UInt8) : okL (quoteL s) := okL_cons rfl (okL_app (okL_flat s) rfl)
theorem okL_prV (v : Vl) : okL (prV v) := by
  unfold prV
  split
  · exact okL_nil
  split
  · exact okL_of (by decide)
  split
  · split <;> exact okL_of (by decide)
  split
  · exact okL_itoa _
  split
  · exact okL_cons rfl (okL_itoa _)
  · exact okL_quote _
theorem okL_dot (d : Int) {a b : List UInt8} (h : okL a) (h' : okL b) : okL (dotT d a b) :=
  okL_cat (okL_cat (okL_cat (okL_cat (okL_itoa d) (okL_of (by decide))) h) (okL_of (by decide))) h'
theorem okL_clk {n : Nat} (h : n < 1440) : okL (clkT n) :=
  okL_cons (okB_dig (by omega)) (okL_cons (okB_dig (by omega)) (okL_cons rfl (okL_cons (okB_dig (by omega)) (okL_one (okB_dig (by omega))))))
theorem okL_dayF : ∀ n : _root_.Fin 128, (dayN n.val).all okB = true := by decide +kernel
theorem okL_day {n : Nat} (h : n < 128) : okL (dayN n) := okL_dayF ⟨n, h⟩
theorem okL_home (n : Nat) : okL (homeN n) := by
  unfold homeN
  split <;> exact okL_of (by decide)
theorem okL_kd {a : At} (h : okL a.s) (least : Int) : okL (kdS a least) := by
  unfold kdS
  split
  · exact okL_cat (okL_cat (okL_of (by decide)) h) (okL_of (by decide))
  · exact h
theorem okL_pr {a c : At} (h : okL a.s) (h' : okL c.s) (l1 l2 : Int) {op : List UInt8} (ho : okL op) : okL (prS a l1 op c l2) :=
  okL_cat (okL_cat (okL_cat (okL_cat (okL_kd h l1) (okL_of (by decide))) ho) (okL_of (by decide))) (okL_kd h' l2)
theorem okL_row {op : List UInt8} (ho : okL op) (least : Int) : ∀ (l : List At) (i : Nat) (acc : List UInt8), (∀ a ∈ l, okL a.s) → okL acc → okL (rowS op least l i acc)
  | [], _, acc, _, h => h
  | a :: r, i, acc, hl, h => by
    unfold rowS
    refine okL_row ho least r (i + 1) _ (fun x hx => hl x (List.mem_cons_of_mem _ hx)) (okL_cat ?_ (okL_kd (hl a List.mem_cons_self) least))
    split
    · exact okL_cat h (okL_cat (okL_cat (okL_of (by decide)) ho) (okL_of (by decide)))
    · exact h
/-- the texts of a list of nodes and of their kids -/
def okA (l : List At) : Prop := ∀ a ∈ l, okL a.s ∧ ∀ b ∈ a.ks, okL b.s
theorem okA_at {l : List At} (h : okA l) (i : Nat) : okL (atG l i).s ∧ ∀ j, okL (atG (atG l i).ks j).s := by
  have e : okL (atG l i).s ∧ ∀ b ∈ (atG l i).ks, okL b.s := by
    unfold atG
    cases hi : l[i]? with
    | none => exact ⟨rfl, fun b hb => by simp [dAt, At.ks] at hb⟩
    | some a => exact h a (List.mem_of_getElem? hi)
  refine ⟨e.1, fun j => ?_⟩
  generalize (atG l i).ks = k at *
  unfold atG
  cases hi : k[j]? with
  | none => exact rfl
  | some a => exact e.2 a (List.mem_of_getElem? hi)
theorem okL_bd (k n m : Int) (nm : List UInt8) (v : Vl) (key : Ky) (kids : List Tr) (l : List At) (hn : ndT (.mk k n m nm v key kids) = 0) (hl : okA l) : okL (bdT k n m nm v key kids l) := by
  have h0 := fun i => (okA_at hl i).1
  have h1 := fun j => (okA_at hl 0).2 j
  have ho : ∀ op : List UInt8, op.all okB = true → okL op := fun _ h => h
  unfold bdT
  split
  · exact okL_prV v
  split
  · exact okL_cat (okL_cat (okL_cat (okL_cat (okL_cat (okL_of (by decide)) (okL_kd (h0 0) 0)) (okL_of (by decide))) (okL_kd (h0 1) 0)) (okL_of (by decide))) (okL_kd (h0 2) 0)
  split
  · exact okL_row (okL_of (by decide)) _ l 0 [] (fun a ha => (hl a ha).1) rfl
  split
  · exact okL_row (okL_of (by decide)) _ l 0 [] (fun a ha => (hl a ha).1) rfl
  split
  · unfold ngS
    split
    · exact okL_pr (h1 0) (h1 1) _ _ (okL_of (by decide))
    split
    · exact okL_pr (h1 1) (h1 0) _ _ (okL_of (by decide))
    · exact okL_cat (okL_of (by decide)) (okL_kd (h0 0) 3)
  split
  · exact okL_pr (h0 0) (h0 1) _ _ (okL_of (by decide))
  split
  · exact okL_pr (h0 0) (h0 1) _ _ (okL_of (by decide))
  split
  · exact okL_pr (h0 0) (h0 1) _ _ (okL_of (by decide))
  split
  · split
    · exact okL_cat (okL_of (by decide)) (okL_kd (h0 1) 7)
    · exact okL_pr (h0 0) (h0 1) _ _ (okL_of (by decide))
  split
  · exact okL_pr (h0 0) (h0 1) _ _ (okL_of (by decide))
  · unfold ndT at hn
    dsimp only at hn
    unfold prmT
    split at hn
    · omega
    split at hn
    · omega
    split at hn
    · omega
    rename_i hr
    have hr : rgB k n m key.1 = true := by simpa using hr
    split
    · rename_i h2
      subst h2
      rw [if_neg (by omega), if_pos rfl] at hn
      split at hn
      · rename_i hv
        rw [Bool.and_eq_true] at hv
        exact okL_dot _ (okL_valB hv.1) (okL_valB hv.2)
      · omega
    split
    · rename_i h3
      rw [if_pos h3] at hn
      split at hn
      · rename_i hv
        exact okL_cat (okL_of (by decide)) (okL_valB hv)
      · omega
    unfold rgB at hr
    split
    · rename_i h4
      rw [if_pos h4] at hr
      have hr := of_decide_eq_true hr
      exact okL_cat (okL_cat (okL_cat (okL_of (by decide)) (okL_clk (by omega))) (okL_of (by decide))) (okL_clk (by omega))
    rename_i h4
    split
    · rename_i h5
      rw [if_neg h4, if_pos h5] at hr
      have hr := of_decide_eq_true hr
      exact okL_day (by omega)
    · exact okL_home _
mutual
theorem okX (t : Tr) (h : vT t) : okL (an t).s ∧ ∀ a ∈ (an t).ks, okL a.s := by
  match t with
  | .mk k n m nm v key kids =>
    unfold vT at h
    rw [an_eq]
    have hk := okXs kids h.2
    exact ⟨okL_bd k n m nm v key kids _ h.1 hk, fun a ha => (hk a ha).1⟩
theorem okXs (l : List Tr) (h : vTs l) : okA (ans l) := by
  match l with
  | [] => unfold ans okA; intro a ha; simp at ha
  | t :: r =>
    unfold vTs at h
    unfold ans
    have h1 := okX t h.1
    have h2 := okXs r h.2
    intro a ha
    rcases List.mem_cons.1 ha with rfl | ha
    · exact h1
    · exact h2 a ha
end
theorem okL_TX {t : Tr} (h : ckT t = 0) : okL (TX t) := (okX t (ck_v h)).1
/-- the text of a valid trigger -/
def evS (t : Tg) : List UInt8 :=
  if t.k = 1 then cat [99, 104, 97, 110, 103, 101, 32] (dotT t.key.1 t.key.2.1 t.key.2.2) else if t.k = 2 then cat [101, 118, 101, 110, 116, 32] (dotT t.ev.1 t.ev.2.1 t.ev.2.2) else
  if t.k = 3 then (if t.m = 127 then cat [116, 105, 109, 101, 32] (clkT t.n.toNat) else cat (cat (cat [116, 105, 109, 101, 32] (clkT t.n.toNat)) [32]) (dayN t.m.toNat)) else
  if t.k = 4 then (if t.nm = [] then [109, 111, 100, 101] else cat [109, 111, 100, 101, 32] t.nm) else if t.k = 5 then [115, 116, 97, 114, 116] else cat [104, 111, 108, 100, 32] (Lib.itoa t.n)
/-- the text of a valid step -/
def acS (s : Sp) : List UInt8 :=
  if s.k = 1 then cat (cat (cat [115, 101, 116, 32] (dotT s.key.1 s.key.2.1 s.key.2.2)) [32, 61, 32]) (kdS (an s.ex) 0) else
  if s.k = 2 then (if nnB s.ex = true then cat [99, 97, 108, 108, 32] (dotT s.key.1 s.key.2.1 s.nm) else cat (cat (cat (cat [99, 97, 108, 108, 32] (dotT s.key.1 s.key.2.1 s.nm)) [40]) (kdS (an s.ex) 0)) [41]) else
  if s.k = 3 then cat [115, 99, 101, 110, 101, 32] s.nm else if s.k = 4 then cat [109, 111, 100, 101, 32] s.nm else cat [110, 111, 116, 105, 102, 121, 32] (quoteL s.nm)
theorem nmE_ok {n : Int} {a b : List UInt8} (h : nmE n a b = 0) : okL a ∧ okL b := by
  unfold nmE at h
  split at h
  · omega
  split at h
  · rename_i hv
    rw [Bool.and_eq_true] at hv
    exact ⟨okL_valB hv.1, okL_valB hv.2⟩
  · omega
theorem okL_ev {t : Tg} (h : tgE t = 0) : okL (evS t) := by
  unfold tgE at h
  unfold evS
  split at h
  · omega
  split at h
  · omega
  split
  · rename_i h1
    rw [if_pos h1] at h
    exact okL_cat (okL_of (by decide)) (okL_dot _ (nmE_ok h).1 (nmE_ok h).2)
  rename_i h1
  rw [if_neg h1] at h
  split
  · rename_i h2
    rw [if_pos h2] at h
    exact okL_cat (okL_of (by decide)) (okL_dot _ (nmE_ok h).1 (nmE_ok h).2)
  rename_i h2
  rw [if_neg h2] at h
  split
  · rename_i h3
    rw [if_pos h3] at h
    split at h
    · split
      · exact okL_cat (okL_of (by decide)) (okL_clk (by omega))
      · exact okL_cat (okL_cat (okL_cat (okL_of (by decide)) (okL_clk (by omega))) (okL_of (by decide))) (okL_day (by omega))
    · omega
  rename_i h3
  rw [if_neg h3] at h
  split
  · rename_i h4
    rw [if_pos h4] at h
    split
    · exact okL_of (by decide)
    · rename_i hn
      split at h
      · rename_i hv
        rcases hv with hv | hv
        · exact absurd hv hn
        · exact okL_cat (okL_of (by decide)) (okL_valB hv)
      · omega
  split
  · exact okL_of (by decide)
  · exact okL_cat (okL_of (by decide)) (okL_itoa _)
theorem okL_ac {s : Sp} (h : spE s = 0) : okL (acS s) := by
  unfold spE at h
  unfold acS
  split
  · rename_i h1
    rw [if_pos h1] at h
    split at h
    · omega
    split at h
    · rename_i hh; exact absurd h hh
    rename_i hn
    have hn : nmE s.key.1 s.key.2.1 s.key.2.2 = 0 := by omega
    exact okL_cat (okL_cat (okL_cat (okL_of (by decide)) (okL_dot _ (nmE_ok hn).1 (nmE_ok hn).2)) (okL_of (by decide))) (okL_kd (okL_TX h) 0)
  rename_i h1
  rw [if_neg h1] at h
  split
  · rename_i h2
    rw [if_pos h2] at h
    split at h
    · omega
    split at h
    · rename_i hh; exact absurd h hh
    rename_i hn
    have hn : nmE s.key.1 s.key.2.1 s.nm = 0 := by omega
    have hc : okL (cat [99, 97, 108, 108, 32] (dotT s.key.1 s.key.2.1 s.nm)) := okL_cat (okL_of (by decide)) (okL_dot _ (nmE_ok hn).1 (nmE_ok hn).2)
    split
    · exact hc
    · rename_i hx
      rw [if_neg hx] at h
      exact okL_cat (okL_cat (okL_cat hc (okL_of (by decide))) (okL_kd (okL_TX h) 0)) (okL_of (by decide))
  rename_i h2
  rw [if_neg h2] at h
  split at h
  · split at h
    · omega
    split
    · rename_i h3
      rw [if_neg (by omega)] at h
      split at h
      · rename_i hv
        exact okL_cat (okL_of (by decide)) (okL_valB hv)
      · omega
    split
    · rename_i h4
      rw [if_neg (by omega)] at h
      split at h
      · rename_i hv
        exact okL_cat (okL_of (by decide)) (okL_valB hv)
      · omega
    · exact okL_cat (okL_of (by decide)) (okL_quote _)
  · omega
/-- the lines of a rule -/
def hdS (r : Rl) : List UInt8 := cat (cat (cat (cat [114, 117, 108, 101, 32] r.nm) [32, 112, 114, 105, 111, 114, 105, 116, 121, 32]) (Lib.itoa r.pr)) [32, 123, 10]
def onS (t : Tg) : List UInt8 := cat (cat [32, 32, 111, 110, 32] (evS t)) [59, 10]
def ifS (t : Tr) : List UInt8 := cat (cat [32, 32, 105, 102, 32] (kdS (an t) 0)) [59, 10]
def doS (s : Sp) : List UInt8 := cat (cat [32, 32, 100, 111, 32] (acS s)) [59, 10]
/-- the literal true -/
def yesB (t : Tr) : Bool := smB t 1 0 0 [] (1, 1, []) (0, [], [])
def rlS (r : Rl) : List UInt8 := hdS r ++ r.on.flatMap onS ++ (if yesB r.ife = true then [] else ifS r.ife) ++ r.dos.flatMap doS ++ [125, 10]
/-- how many lines end; are all other bytes such as may stand within a line? -/
def nlC : List UInt8 → Nat
  | [] => 0
  | c :: r => (if c = 10 then 1 else 0) + nlC r
def lnB (c : UInt8) : Bool := c == 10 || okB c
def lnL (l : List UInt8) (n : Nat) : Prop := l.all lnB = true ∧ nlC l = n
theorem nlC_app : ∀ a b : List UInt8, nlC (a ++ b) = nlC a + nlC b
  | [], b => by rw [List.nil_append]; show _ = 0 + _; omega
  | c :: r, b => by
    rw [List.cons_append]
    show _ + nlC (r ++ b) = _ + nlC r + _
    rw [nlC_app r b]
    omega
theorem lnL_app {a b : List UInt8} {n m : Nat} (h : lnL a n) (h' : lnL b m) : lnL (a ++ b) (n + m) := by
  unfold lnL at *
  rw [List.all_append, h.1, h'.1, nlC_app, h.2, h'.2]
  exact ⟨rfl, rfl⟩
theorem lnL_ok : ∀ {l : List UInt8}, okL l → lnL l 0
  | [], _ => ⟨rfl, rfl⟩
  | c :: r, h => by
    unfold okL at h
    rw [List.all_cons, Bool.and_eq_true] at h
    have hr := lnL_ok (l := r) h.2
    have hc : c ≠ 10 := fun hc => by
      have h1 := h.1
      rw [hc] at h1
      exact absurd h1 (by decide)
    unfold lnL at *
    refine ⟨?_, ?_⟩
    · rw [List.all_cons, hr.1]
      unfold lnB
      rw [h.1]
      simp
    · show (if c = 10 then 1 else 0) + nlC r = 0
      rw [if_neg hc, hr.2]
theorem lnL_line {a b : List UInt8} (h : okL a) (hb : lnL b 1) : lnL (cat a b) 1 := by
  have := lnL_app (lnL_ok h) hb
  rw [Nat.zero_add] at this
  exact this
theorem lnL_flat {α : Type} (f : α → List UInt8) : ∀ l : List α, (∀ x ∈ l, lnL (f x) 1) → lnL (l.flatMap f) l.length
  | [], _ => ⟨rfl, rfl⟩
  | x :: r, h => by
    rw [List.flatMap_cons]
    have := lnL_app (h x List.mem_cons_self) (lnL_flat f r fun y hy => h y (List.mem_cons_of_mem _ hy))
    rw [Nat.add_comm] at this
    exact this
theorem fsE_all {α : Type} {f : α → Int} : ∀ {l : List α}, fsE f l = 0 → ∀ x ∈ l, f x = 0
  | [], _, x, hx => by simp at hx
  | y :: r, h, x, hx => by
    unfold fsE at h
    split at h
    · rename_i hh; exact absurd h hh
    · rename_i hh
      rcases List.mem_cons.1 hx with rfl | hx
      · omega
      · exact fsE_all h x hx
/-- what a valid rule's check says of its parts -/
theorem rlE_parts {r : Rl} (h : rlE r = 0) : valB r.nm = true ∧ 0 ≤ r.pr ∧ r.pr ≤ 100 ∧ (∀ t ∈ r.on, tgE t = 0) ∧ ckT r.ife = 0 ∧ ∀ s ∈ r.dos, spE s = 0 := by
  unfold rlE at h
  split at h
  · omega
  rename_i h0
  split at h
  · omega
  split at h
  · omega
  split at h
  · rename_i hh; exact absurd h hh
  rename_i h3
  split at h
  · rename_i hh; exact absurd h hh
  rename_i h4
  exact ⟨by simpa using h0, by omega, by omega, fsE_all (by omega), by omega, fsE_all h⟩
theorem lnL_rl {r : Rl} (h : rlE r = 0) : lnL (rlS r) (2 + r.on.length + r.dos.length + (if yesB r.ife = true then 0 else 1)) := by
  obtain ⟨h1, h2, h3, h4, h5, h6⟩ := rlE_parts h
  have a1 : lnL (hdS r) 1 := lnL_line (okL_cat (okL_cat (okL_cat (okL_of (by decide)) (okL_valB h1)) (okL_of (by decide))) (okL_itoa _)) ⟨by decide, by decide⟩
  have a2 : lnL (r.on.flatMap onS) r.on.length := lnL_flat onS r.on fun t ht => lnL_line (okL_cat (okL_of (by decide)) (okL_ev (h4 t ht))) ⟨by decide, by decide⟩
  have a3 : lnL (if yesB r.ife = true then [] else ifS r.ife) (if yesB r.ife = true then 0 else 1) := by
    split
    · exact ⟨rfl, rfl⟩
    · exact lnL_line (okL_cat (okL_of (by decide)) (okL_kd (okL_TX h5) 0)) ⟨by decide, by decide⟩
  have a4 : lnL (r.dos.flatMap doS) r.dos.length := lnL_flat doS r.dos fun s hs => lnL_line (okL_cat (okL_of (by decide)) (okL_ac (h6 s hs))) ⟨by decide, by decide⟩
  have a5 : lnL [125, 10] 1 := ⟨by decide, by decide⟩
  have := lnL_app (lnL_app (lnL_app (lnL_app a1 a2) a3) a4) a5
  have e : 1 + r.on.length + (if yesB r.ife = true then 0 else 1) + r.dos.length + 1 = 2 + r.on.length + r.dos.length + (if yesB r.ife = true then 0 else 1) := by omega
  rw [e] at this
  exact this
end Go.HH
