/-
  Chain, as a call of the model: a range over a function.
-/
import Derived.Test.YtbbhmdpbojoheaaDoorYF
import Derived.RangeFuncNested
import Derived.RangeFuncBound
import Derived.RangeFuncCalls
import Derived.RangeFuncLeaves
import Derived.RangeFuncBox
import Derived.Shelf.Abstract
import Derived.WalkKit
import Derived.OwnWalkIn
import Derived.TacticsInMore
import Derived.LoopNIn
import Derived.LoopIn
import Derived.Maps.AppendAt
namespace Go.HH.W
open Go Go.Proofs Go.HH Go.RowKit Go.Shelf
attribute [local go_sem] Oper.semAt_some
set_option maxRecDepth 100000
set_option maxHeartbeats 4000000
set_option linter.unusedSimpArgs false
set_option linter.unusedVariables false
/-- the model's value of a string -/
abbrev sVal (s : List UInt8) : Value := .string ⟨s.toArray⟩
/-- the cells of an entry, in the model -/
def enC (t : En) : List Value := [.int .i64 t.no, .int .i64 t.tick, .int .i64 t.kind, .int .i64 t.key.1, sVal t.key.2.1, sVal t.key.2.2, .int .i64 t.val.1, .int .i64 t.val.2.1, sVal t.val.2.2, .int .i64 t.cause.1, sVal t.cause.2.1, .int .i64 t.cause.2.2, .int .i64 t.par]
def enM (t : En) : Value := .agg (enC t).toArray
theorem ancestors_in (lv : Value) (a : Option Addr) (len cap : Nat) (no : Int) (w : World) :
    CallsIn Fence.wide 4 Tryd.prog 27 #[.slice a len cap, .int .i64 no] w fun e w' => e = .returned (.func (.func 38) #[] #[.pointer (some ⟨w.heap.size, 0, none⟩), .pointer (some ⟨w.heap.size + 1, 0, none⟩)]) ∧
      w' = (w.alloc (.cells #[.slice a len cap] 22)).alloc (.cells #[.int .i64 no] 3) := by
  refine callsIn_of_wp Tryd.func27 rfl trivial ?_ rfl
  simp only [Tryd.ntmps27, List.size_toArray, List.length_cons, List.length_nil, Nat.reduceAdd, Nat.reduceSub, Array.replicate_succ, Array.replicate_zero, List.push_toArray, List.append_toArray, List.nil_append, List.cons_append]
  gi_wp2
  go_ret
  exact ⟨rfl, rfl⟩
/-- a slice of the model holds a log, in a block below a number -/
def LogAt (n₀ : Nat) (W : World) (a : Option Addr) (len cap : Nat) (l : List En) : Prop :=
  len = l.length ∧ len ≤ cap ∧ (l = [] ∨ ∃ b o, a = some ⟨b, o, none⟩ ∧ b < n₀ ∧ ∀ j e, l[j]? = some e → ∀ k u, (enC e)[k]? = some u → W.cell? ⟨b, o + (j * 13 + k), none⟩ = some u)
theorem enC_length (e : En) : (enC e).length = 13 := rfl
theorem flat_enC : ∀ (l : List En) (i : Nat) (u : Value), (l.flatMap enC)[i]? = some u → ∃ j e k, l[j]? = some e ∧ (enC e)[k]? = some u ∧ i = j * 13 + k
  | [], i, u, h => by simp at h
  | e :: r, i, u, h => by
    rw [List.flatMap_cons] at h
    by_cases hi : i < 13
    · rw [List.getElem?_append_left (by rw [enC_length]; exact hi)] at h
      exact ⟨0, e, i, rfl, h, by omega⟩
    · rw [List.getElem?_append_right (by rw [enC_length]; omega), enC_length] at h
      obtain ⟨j, e', k, h1, h2, h3⟩ := flat_enC r (i - 13) u h
      exact ⟨j + 1, e', k, by simpa using h1, h2, by omega⟩
theorem repL_enC (S : Store) (M : List Nat) (e : En) : RepL S M (enV e).cells (enC e) := by
  unfold enV enC
  refine .cons (.int _ _) (.cons (.int _ _) (.cons (.int _ _) (.cons (.int _ _) (.cons (.str _) (.cons (.str _) (.cons (.int _ _) (.cons (.int _ _) (.cons (.str _) (.cons (.int _ _) (.cons (.str _) (.cons (.int _ _) (.cons (.int _ _) (.nil _ _)))))))))))))
theorem repL_ens (S : Store) (M : List Nat) : ∀ l : List En, RepL S M (flat (ens l)) (l.flatMap enC)
  | [] => .nil _ _
  | e :: r => by
    have := (repL_enC S M e).append (repL_ens S M r)
    simpa [flat, ens] using this
theorem enC_one (e : En) : ∀ u ∈ enC e, u.oneCell' = true := by
  intro u hu
  unfold enC at hu
  simp only [List.mem_cons, List.not_mem_nil, or_false] at hu
  rcases hu with rfl | rfl | rfl | rfl | rfl | rfl | rfl | rfl | rfl | rfl | rfl | rfl | rfl <;> rfl
theorem rep_log {n₀ : Nat} {W : World} {a : Option Addr} {len cap : Nat} {l : List En} {S : Store} (M : List Nat) (hS : ∀ b o v, (∃ off, a = some ⟨b, off, none⟩) → W.cell? ⟨b, o, none⟩ = some v → S b o = some v) (hL : LogAt n₀ W a len cap l) : Rep S M (.sl (ens l)) (.slice a len cap) := by
  obtain ⟨rfl, hcap, rfl | ⟨b, o, rfl, hb, hc⟩⟩ := hL
  · exact .slE a cap
  · have hrl := repL_ens S M l
    have hlen : (flat (ens l)).length = (l.flatMap enC).length := hrl.1
    have := Rep.sl (S := S) (M := M) (ens l) b o cap (fun i => ((l.flatMap enC)[i]?).getD undef) (by rw [ens_length]; exact hcap) ⟨13, fun x hx => by
        obtain ⟨e, _, rfl⟩ := List.mem_map.1 hx
        rfl⟩ (fun i hi => ?_) (fun i hi => ?_) (fun i hi => ?_)
    · rw [ens_length] at this
      exact this
    · have hi' : i < (l.flatMap enC).length := by omega
      obtain ⟨j, e, k, h1, h2, h3⟩ := flat_enC l i _ (List.getElem?_eq_getElem hi')
      have h4 := hS _ _ _ ⟨_, rfl⟩ (hc j e h1 k _ h2)
      rw [← h3] at h4
      rw [List.getElem?_eq_getElem hi', Option.getD_some]
      exact h4
    · have hi' : i < (l.flatMap enC).length := by omega
      obtain ⟨j, e, k, h1, h2, h3⟩ := flat_enC l i _ (List.getElem?_eq_getElem hi')
      rw [List.getElem?_eq_getElem hi', Option.getD_some]
      exact enC_one e _ (List.mem_of_getElem? h2)
    · have hi' : i < (l.flatMap enC).length := by omega
      rw [List.getElem?_eq_getElem hi', Option.getD_some]
      exact hrl.2 i hi hi'
theorem find_in (n₀ : Nat) (W : World) (a : Option Addr) (len cap : Nat) (l : List En) (no : Int) (hmax : l.length ≤ maxLen) (hL : LogAt n₀ W a len cap l) : Calls Tryd.prog 39 #[.slice a len cap, .int .i64 no] W fun e W' => e = .returned (.int .i64 (fdI l no 0)) ∧ Below W.heap.size W W' := by
  obtain ⟨bx, hc⟩ := call_find l hmax no
  exact calls_int (vs := [.slice a len cap, .int .i64 no]) (.cons (rep_log [] (fun b o v _ h => h) hL) (.cons (.int _ _) (.nil _ _))) (fun p hp t xs => by
    simp only [List.mem_cons, List.not_mem_nil, or_false] at hp
    rcases hp with rfl | rfl <;> exact fun h => by cases h) hc
def meas (l : List En) (i : Int) : Nat := if i < 0 then 0 else match l[i.toNat]? with
  | some e => e.no.toNat + 1
  | none => 0
theorem grown_of_below {W W' : World} (h : Below W.heap.size W W') : W.grownBy W' none := ⟨h.os, h.tape, h.output, h.size, fun k hk _ => h.block k hk⟩
/-- the block is the variable's box, or the row of the slice that it holds -/
def Ow (Bo : Nat) (W : World) (k : Nat) : Prop := k = Bo ∨ ∃ off len cap, W.cell? ⟨Bo, 0, none⟩ = some (.slice (some ⟨k, off, none⟩) len cap)
/-- what a round keeps: whatever cells are not the variable's -/
structure Kp (Bo : Nat) (W W' : World) : Prop where
  size : W.heap.size ≤ W'.heap.size
  cells : ∀ k c e f, ¬ Ow Bo W k → W.heap[k]? = some (.cells c e f) → W'.heap[k]? = some (.cells c e f)
  own : ∀ k, k < W.heap.size → ¬ Ow Bo W k → ¬ Ow Bo W' k
  good : (∀ k, Ow Bo W k → k < W.heap.size) → ∀ k, Ow Bo W' k → k < W'.heap.size
theorem Kp.trans {Bo : Nat} {A B C : World} (h : Kp Bo A B) (k : Kp Bo B C) : Kp Bo A C :=
  ⟨Nat.le_trans h.size k.size, fun i c e f hn hi => k.cells i c e f (h.own i (Array.getElem?_eq_some_iff.1 hi).1 hn) (h.cells i c e f hn hi),
    fun i hi hn => k.own i (Nat.lt_of_lt_of_le hi h.size) (h.own i hi hn), fun hg => k.good (h.good hg)⟩
theorem ow_same {Bo : Nat} {W W' : World} (h : W'.heap[Bo]? = W.heap[Bo]?) (k : Nat) : Ow Bo W' k ↔ Ow Bo W k := by
  unfold Ow
  rw [World.cell?_of_block (a := ⟨Bo, 0, none⟩) h]
theorem kp_below {Bo : Nat} {W W' : World} (h : Below W.heap.size W W') (hB : Bo < W.heap.size) : Kp Bo W W' :=
  ⟨h.size, fun k c e f _ hk => (h.block k (Array.getElem?_eq_some_iff.1 hk).1).trans hk, fun k _ hn => fun ho => hn ((ow_same (h.block Bo hB) k).1 ho),
    fun hg k ho => Nat.lt_of_lt_of_le (hg k ((ow_same (h.block Bo hB) k).1 ho)) h.size⟩
theorem kp_putObj {Bo : Nat} {W : World} {l : Nat} {o : Obj} (o' : Obj) (hB : Bo < l) (hl : W.heap[l]? = some o) (ho : o.isCells = false) : Kp Bo W (W.putObj l o') := by
  have hb : (W.putObj l o').heap[Bo]? = W.heap[Bo]? := World.putObj_heap_other (by omega)
  refine ⟨by simp, fun k c e f _ hk => ?_, fun k _ hn h => hn ((ow_same hb k).1 h), fun hg k h => by simpa using hg k ((ow_same hb k).1 h)⟩
  by_cases e : k = l
  · subst e
    rw [hl] at hk
    injection hk with hk
    subst hk
    cases ho
  · exact (World.putObj_heap_other e).trans hk
theorem cell_of_block {W W' : World} {b : Nat} {c : Array Value} {e : TypeId} {f : Nat × Nat} (h : W.heap[b]? = some (.cells c e f)) (h' : W'.heap[b]? = some (.cells c e f)) (o : Nat) : W'.cell? ⟨b, o, none⟩ = W.cell? ⟨b, o, none⟩ :=
  World.cell?_of_block (a := ⟨b, o, none⟩) (h'.trans h.symm)
theorem block_of_cell {W : World} {b o : Nat} {v : Value} (h : W.cell? ⟨b, o, none⟩ = some v) : ∃ c e f, W.heap[b]? = some (.cells c e f) := by
  unfold World.cell? at h
  split at h
  · rename_i c e f hh; exact ⟨c, e, f, hh⟩
  · cases h
theorem Kp.cell {Bo : Nat} {W W' : World} (h : Kp Bo W W') {b o : Nat} {v : Value} (hn : ¬ Ow Bo W b) (hc : W.cell? ⟨b, o, none⟩ = some v) : W'.cell? ⟨b, o, none⟩ = some v := by
  obtain ⟨c, e, f, hh⟩ := block_of_cell hc
  exact (cell_of_block hh (h.cells b c e f hn hh) o).trans hc
theorem stops_at (l : List En) (hmax : l.length ≤ maxLen) (no : Int) (a : Option Addr) (len cap n₀ : Nat) (w : World) (Bo Bl Bn : Nat) (hBo : Bo < w.heap.size) (hBl : Bl < w.heap.size) (hBn : Bn < w.heap.size) (hn₀ : n₀ ≤ Bo) (n1 : Bl ≠ Bo) (n2 : Bn ≠ Bo)
    (ho : w.cell? ⟨Bo, 0, none⟩ = some (.slice none 0 0)) (hl : w.cell? ⟨Bl, 0, none⟩ = some (.slice a len cap)) (hn : w.cell? ⟨Bn, 0, none⟩ = some (.int .i64 no)) (hL : LogAt n₀ w a len cap l) :
    SeqStopsK Fence.wide 4 Tryd.prog 38 #[.pointer (some ⟨Bl, 0, none⟩), .pointer (some ⟨Bn, 0, none⟩)] (fun e : En => #[enM e])
      (Kp Bo) (fun xs => xs = chT l no) (fun _ => True) l.length w := fun m J Jx W hW hJ hJx hY h0 => by
  have hl' := (hW.cell (p := ⟨Bl, 0, none⟩) hBl).trans hl
  have hn' := (hW.cell (p := ⟨Bn, 0, none⟩) hBn).trans hn
  have ho' := (hW.cell (p := ⟨Bo, 0, none⟩) hBo).trans ho
  have hsz := hW.size
  have hLW : LogAt n₀ W a len cap l := by
    obtain ⟨h1, h2, h3⟩ := hL
    refine ⟨h1, h2, h3.imp id fun ⟨b, o, e1, e2, e3⟩ => ⟨b, o, e1, e2, fun j e he k u hu => ?_⟩⟩
    exact (hW.cell (p := ⟨b, o + (j * 13 + k), none⟩) (by show b < _; omega)).trans (e3 j e he k u hu)
  refine callsIn_of_wp Tryd.func38 rfl trivial ?_ rfl
  simp only [Tryd.ntmps38, List.size_toArray, List.length_cons, List.length_nil, Nat.reduceAdd, Nat.reduceSub, Array.replicate_succ, Array.replicate_zero, List.push_toArray, List.append_toArray, List.nil_append, List.cons_append]
  gi_wp2_with (refine ⟨trivial, ?_⟩; gi_at_call 39; refine (callsIn_wide.2 (find_in n₀ W a len cap l no hmax hLW)).mono ?_; rintro e w1 ⟨rfl, hb1⟩)
  have hJ1 : J [] w1 := hJ [] W w1 none h0 (grown_of_below hb1) (fun r e => by cases e)
  have hk1 : Kp Bo W w1 := kp_below hb1 (by omega)
  have owW : ∀ k, Ow Bo W k → k = Bo := fun k h => by
    rcases h with h | ⟨off, len', cap', h⟩
    · exact h
    · rw [ho'] at h; cases h
  have gW : ∀ k, Ow Bo W k → k < W.heap.size := fun k h => by rw [owW k h]; omega
  gi_loopw [4] (fun i wr => ∃ (no' : Int) (pre : List En), i = .int .i64 (fdI l no' 0) ∧ pre ++ chT l no' = chT l no ∧ J pre wr ∧ Kp Bo W wr)
    (fun i _ => meas l (intOf i))
  case atStart => exact ⟨no, [], rfl, rfl, hJ1, hk1⟩
  case round =>
    obtain ⟨no', pre, rfl, hpre, hJs, hnx⟩ := hrel
    have hlr : wr.cell? ⟨Bl, 0, none⟩ = some (.slice a len cap) := hnx.cell (fun h => n1 (owW _ h)) hl'
    rcases fdI_get (l := l) (no := no') with ⟨hf, hnone⟩ | ⟨j, e, hf, hje, hno, hjl, hfind⟩
    · rw [hf]
      gi_wp2
      go_end0
      rw [chT_none hnone, List.append_nil] at hpre
      exact ⟨⟨_, rfl⟩, .inl ⟨_, rfl, by rw [← hpre]; exact hJs⟩⟩
    · rw [hf]
      subst hno
      have hLr : LogAt n₀ wr a len cap l := by
        obtain ⟨h1, h2, h3⟩ := hLW
        refine ⟨h1, h2, h3.imp id fun ⟨b, o, e1, e2, e3⟩ => ⟨b, o, e1, e2, fun j e he k u hu => ?_⟩⟩
        exact hnx.cell (fun h => by have := owW _ h; omega) (e3 j e he k u hu)
      obtain ⟨hlen, hcap, hLc⟩ := hLr
      subst hlen
      rcases hLc with rfl | ⟨b, o, rfl, hb, hcell⟩
      · simp at hjl
      have hcr : ∀ k u, (enC e)[k]? = some u → wr.cell? ⟨b, o + (j * 13 + k), none⟩ = some u := fun k u hu => hcell j e hje k u hu
      have q0 := hcr 0 _ rfl
      have q1 := hcr 1 _ rfl
      have q2 := hcr 2 _ rfl
      have q3 := hcr 3 _ rfl
      have q4 := hcr 4 _ rfl
      have q5 := hcr 5 _ rfl
      have q6 := hcr 6 _ rfl
      have q7 := hcr 7 _ rfl
      have q8 := hcr 8 _ rfl
      have q9 := hcr 9 _ rfl
      have q10 := hcr 10 _ rfl
      have q11 := hcr 11 _ rfl
      have q12 := hcr 12 _ rfl
      simp only [Nat.add_zero, ← Nat.add_assoc] at q0 q1 q2 q3 q4 q5 q6 q7 q8 q9 q10 q11 q12
      have hj0 : ¬ ((j : Int) < 0) := by omega
      have hj1 : j < l.length := by omega
      clear hcr
      have hWr : W.heap.size ≤ wr.heap.size := hnx.size
      obtain ⟨W2, hW2⟩ : ∃ W2, wr.alloc (.cells (enC e).toArray 34) = W2 := ⟨_, rfl⟩
      have hb2 : Below wr.heap.size wr W2 := by rw [← hW2]; exact (Below.refl _ wr).alloc (Nat.le_refl _) _
      have hJ2 : J pre W2 := hJ pre wr W2 none hJs (grown_of_below hb2) (fun r e => by cases e)
      have hx : W2.heap[wr.heap.size]? = some (.cells (enC e).toArray 34) := by rw [← hW2]; exact World.alloc_heap_new wr _
      have hlt : pre.length < l.length := by
        have h1 := chT_length l no
        have h2 : 0 < (chT l e.no).length := by
          by_cases hs : e.par < 1 ∨ e.no ≤ e.par
          · rw [chT_stop hfind hs]; simp
          · rw [chT_go hfind hs]; simp
        rw [← hpre, List.length_append] at h1
        omega
      obtain ⟨fn, tmps, assign, body, hy, hR⟩ := hY pre e W2 hJ2 hlt
      have g2 : ∀ k, Ow Bo W2 k → k < wr.heap.size := fun k h => hnx.good gW k ((ow_same (hb2.block Bo (by omega)) k).1 h)
      have hno2 : ¬ Ow Bo W2 wr.heap.size := fun h => by have := g2 _ h; omega
      have hk2 : Kp Bo wr W2 := kp_below hb2 (by omega)
      subst hW2
      dsimp only [enM, enC, sVal] at hy
      gi_wp2
      refine hR.mono ?_
      rintro e2 W3 (⟨rfl, hJ3, hk3⟩ | ⟨rfl, hx3⟩)
      · have hx3 : W3.heap[wr.heap.size]? = some (.cells (enC e).toArray 34) := hk3.cells _ _ _ _ hno2 hx
        have c0 : W3.cell? ⟨wr.heap.size, 0, none⟩ = some (.int .i64 e.no) := by rw [cell_of_heap hx3]; rfl
        have c12 : W3.cell? ⟨wr.heap.size, 12, none⟩ = some (.int .i64 e.par) := by rw [cell_of_heap hx3]; rfl
        have hkk : Kp Bo W W3 := hnx.trans (hk2.trans hk3)
        have hl3 : W3.cell? ⟨Bl, 0, none⟩ = some (.slice (some ⟨b, o, none⟩) l.length cap) := hkk.cell (fun h => n1 (owW _ h)) hl'
        have hL3 : LogAt n₀ W3 (some ⟨b, o, none⟩) l.length cap l := ⟨rfl, hcap, .inr ⟨b, o, rfl, hb, fun j e he k u hu => (hk2.trans hk3).cell (fun h => by
          have h1 := hnx.own b
          have h2 : ¬ Ow Bo W b := fun h => by have := owW _ h; omega
          exact h1 (by omega) h2 h) (hcell j e he k u hu)⟩⟩
        by_cases p1 : e.par < 1
        · gi_wp2
          refine bodyPost_ret (results_none rfl _ _ _) rfl ?_
          exact ⟨⟨_, rfl⟩, .inl ⟨_, rfl, by rw [← hpre, chT_stop hfind (.inl p1)]; exact hJ3⟩⟩
        by_cases p2 : e.no ≤ e.par
        · gi_wp2
          refine bodyPost_ret (results_none rfl _ _ _) rfl ?_
          exact ⟨⟨_, rfl⟩, .inl ⟨_, rfl, by rw [← hpre, chT_stop hfind (.inr p2)]; exact hJ3⟩⟩
        gi_wp2_with (refine ⟨trivial, ?_⟩; gi_at_call 39; refine (callsIn_wide.2 (find_in n₀ W3 (some ⟨b, o, none⟩) l.length cap l e.par hmax hL3)).mono ?_; rintro e3 w4 ⟨rfl, hb4⟩)
        have hJ4 : J (pre ++ [e]) w4 := hJ _ W3 w4 none hJ3 (grown_of_below hb4) (fun r e => by cases e)
        have hk4 : Kp Bo W w4 := hkk.trans (kp_below hb4 (by have := hkk.size; omega))
        go_roundw
        case rel => exact ⟨e.par, pre ++ [e], rfl, by rw [← hpre, chT_go hfind (by omega), List.append_assoc]; rfl, hJ4, hk4⟩
        case measure =>
          show meas l (fdI l e.par 0) < meas l (j : Int)
          have m1 : meas l (j : Int) = e.no.toNat + 1 := by unfold meas; rw [if_neg (by omega), Int.toNat_natCast, hje]
          rw [m1]
          unfold meas
          rcases fdI_get (l := l) (no := e.par) with ⟨hf', _⟩ | ⟨j', e', hf', hje', hno', _, _⟩
          · rw [hf', if_pos (by decide)]; omega
          · rw [hf', if_neg (by omega), Int.toNat_natCast, hje']; simp only; omega
      · gi_wp2
        refine bodyPost_ret (results_none rfl _ _ _) rfl ?_
        exact ⟨⟨_, rfl⟩, .inr ⟨_, trivial, hx3⟩⟩
end Go.HH.W
