/-
  Chain, as a call of the model.
-/
import Derived.Test.YtbbhmdpbojoheaaDoorYC
import Derived.Test.YtbbhmdpbojoheaaDoorStep6
namespace Go.HH.W
open Go Go.Proofs Go.HH Go.RowKit Go.Shelf
attribute [local go_sem] Oper.semAt_some
set_option maxRecDepth 100000
set_option maxHeartbeats 4000000
set_option linter.unusedSimpArgs false
set_option linter.unusedVariables false
theorem wpListIn_append_src {F : Fence} {n : Nat} {P : Program} (w : World) {ops : Array Oper} {rest : List Oper} {o : Oper} {a : Act} {Q : Exit → Act → World → Prop}
    (hg : o.guard = none) (s x : Operand) (t : TypeId) (hop : o.op = Op.call { callee := Callee.builtin Builtin.append, args := #[s, x], argTypes := #[t, t] })
    (e : TypeId) (i : TypeInfo) (z : Value) (h1 : P.underlying t = some (.slice e)) (h2 : P.info? e = some i) (h3 : i.zero = some z) (h6 : z.cells.size = i.size)
    (v : Value) (k : Nat) (xs : List Value) (hs : a.eval s = v) (hown : w.ownsRow 0 e i.size v k xs) (xv : Value) (m : Nat) (news : List Value) (hx : a.eval x = xv) (hsrc : Src P i.size t xv m news w)
    (b1 : k + m ≤ maxLen) (b2 : (k + m) * i.bytes ≤ 140737488355328)
    (hK : ∀ v' w', w'.ownsRow 0 e i.size v' (k + m) (xs ++ news) → w'.os = w.os → w'.tape = w.tape → w'.output = w.output → w.heap.size ≤ w'.heap.size →
      ((∃ g, v.ownBlock = some g ∧ v'.ownBlock = some g ∧ ∀ k, k ≠ g → w'.heap[k]? = w.heap[k]?) ∨ ((v'.ownBlock = none ∨ v'.ownBlock = some w.heap.size) ∧ ∀ k, k < w.heap.size → w'.heap[k]? = w.heap[k]?)) →
      wpListIn F n P ops Q rest (a.put o.dst v') w') :
    wpListIn F n P ops Q (o :: rest) a w := by
  refine wpListIn_plain hg fun K hK' => ?_
  obtain ⟨v', w', hrun, r1, r2, r3, r4, r5, r6⟩ := run_append_src (P := P) w t t o.type e i z h1 h2 h3 h6 v k xs hown xv m news hsrc b1 b2
  unfold Oper.wpIn
  refine ⟨?_, ?_⟩
  · simp [Oper.about, hop, resolve, Target.leads, Sem.run_pure]
  · rw [Oper.semAt_plain F _ _ (by rw [hop]; intro c hc'; cases hc')]
    simp [execOp, hop, resolve, invoke, builtin, hs, hx, hrun, Result.andThen]
    exact hK' _ _ (hK v' w' r1 r2 r3 r4 r5 r6)
noncomputable def IEn : TypeInfo := (Tryd.prog.info? 34).getD default
theorem infoEn : Tryd.prog.info? 34 = some IEn := by kernel_rfl
theorem sizeEn : IEn.size = 13 := by kernel_rfl
theorem bytesEn : IEn.bytes = 136 := by kernel_rfl
theorem zeroEn : ∃ z, IEn.zero = some z ∧ z.cells.size = 13 := by
  have h : (match IEn.zero with | some z => z.cells.size == 13 | none => false) = true := by kernel_rfl
  split at h
  · rename_i z e; exact ⟨z, e, by simpa using h⟩
  · cases h
/-- what is known between two rounds -/
def InvC (w : World) (pre : List En) (W : World) : Prop :=
  (∃ v, Boxed W w.heap.size 22 v ∧ W.ownsRow 0 34 13 v pre.length (pre.flatMap enC) ∧ ∀ g, v.ownBlock = some g → w.heap.size ≤ g) ∧ Below w.heap.size w W
/-- the loop variable's box -/
def AxC (w : World) (a : Option Addr) (len cap : Nat) (no : Int) (x : En) (a' : Act) (W : World) : Prop :=
  ∃ Bx, w.heap.size < Bx ∧ W.heap[Bx]? = some (.cells (enC x).toArray 34) ∧ a' = { tmps := #[.slice a len cap, .int .i64 no, undef, undef, .slice none 0 0, .pointer (some ⟨w.heap.size, 0, none⟩), .pointer (some ⟨Bx, 0, none⟩), .slice a len cap, .int .i64 no, .func (.func 38) #[] #[.pointer (some ⟨w.heap.size + 1, 0, none⟩), .pointer (some ⟨w.heap.size + 1 + 1, 0, none⟩)], .agg #[.int .i64 x.no, .int .i64 x.tick, .int .i64 x.kind, .int .i64 x.key.1, sVal x.key.2.1, sVal x.key.2.2, .int .i64 x.val.1, .int .i64 x.val.2.1, sVal x.val.2.2, .int .i64 x.cause.1, sVal x.cause.2.1, .int .i64 x.cause.2.2, .int .i64 x.par], undef, undef, undef, undef, undef], defers := [] }
theorem chain_in (l : List En) (hmax : l.length ≤ maxLen) (hby : l.length * 136 ≤ 140737488355328) (no : Int) (a : Option Addr) (len cap : Nat) (w : World) (hL : LogAt w.heap.size w a len cap l) :
    CallsIn Fence.wide 5 Tryd.prog 15 #[.slice a len cap, .int .i64 no] w fun e w' => ∃ v, e = .returned v ∧ w'.ownsRow 0 34 13 v (chT l no).length ((chT l no).flatMap enC) ∧ (∀ g, v.ownBlock = some g → w.heap.size ≤ g) ∧ Below w.heap.size w w' := by
  refine callsIn_of_wp_marks Tryd.func15 rfl trivial ?_ rfl
  simp only [Tryd.ntmps15, List.size_toArray, List.length_cons, List.length_nil, Nat.reduceAdd, Nat.reduceSub, Array.replicate_succ, Array.replicate_zero, List.push_toArray, List.append_toArray, List.nil_append, List.cons_append]
  gi_wp2_with (refine ⟨trivial, ?_⟩; gi_at_call 27; refine (ancestors_in (.slice a len cap) a len cap no _).mono ?_; rintro e w1 ⟨rfl, rfl⟩)
  obtain ⟨W1, hW1⟩ : ∃ W1, ((w.alloc (.cells #[.slice none 0 0] 22)).alloc (.cells #[.slice a len cap] 22)).alloc (.cells #[.int .i64 no] 3) = W1 := ⟨_, rfl⟩
  have hs1 : W1.heap.size = w.heap.size + 3 := by rw [← hW1]; simp
  have hb0 : Below w.heap.size w W1 := by
    rw [← hW1]
    exact (((Below.refl _ w).alloc (Nat.le_refl _) _).alloc (by simp) _).alloc (by simp; omega) _
  have ho1 : Boxed W1 w.heap.size 22 (.slice none 0 0) := by rw [← hW1]; exact ((Boxed.new w _ _).alloc _).alloc _
  have hl1 : W1.cell? ⟨w.heap.size + 1, 0, none⟩ = some (.slice a len cap) := by
    rw [← hW1]
    have := (Boxed.new (w.alloc (.cells #[.slice none 0 0] 22)) 22 (.slice a len cap)).alloc (.cells #[.int .i64 no] 3)
    simpa using this.cell
  have hn1 : W1.cell? ⟨w.heap.size + 2, 0, none⟩ = some (.int .i64 no) := by
    rw [← hW1]
    have := Boxed.new ((w.alloc (.cells #[.slice none 0 0] 22)).alloc (.cells #[.slice a len cap] 22)) 3 (.int .i64 no)
    simpa using this.cell
  have hL1 : LogAt w.heap.size W1 a len cap l := by
    obtain ⟨h1, h2, h3⟩ := hL
    refine ⟨h1, h2, h3.imp id fun ⟨b, o, e1, e2, e3⟩ => ⟨b, o, e1, e2, fun j e he k u hu => ?_⟩⟩
    exact (hb0.cell (p := ⟨b, o + (j * 13 + k), none⟩) e2).trans (e3 j e he k u hu)
  rw [hW1]
  have hst := stops_at l hmax no a len cap w.heap.size W1 w.heap.size (w.heap.size + 1) (w.heap.size + 2) (by omega) (by omega) (by omega) (Nat.le_refl _) (by omega) (by omega) ho1.cell hl1 hn1 hL1
  gi_wp2
  refine wpIn_rangeFunc_ownH rfl (by omega) (gf := 38) (lb := #[.pointer (some ⟨w.heap.size + 1, 0, none⟩), .pointer (some ⟨w.heap.size + 1 + 1, 0, none⟩)]) rfl trivial (enters_of Tryd.func38 (by kernel_rfl) rfl) hst
    (fun h k => h.trans k) (fun W l' o o' hl h hc _ => kp_putObj o' (by omega) h hc) (Below.refl _ _) (fun _ => rfl)
    (InvC w) (fun _ _ _ => False)
    (OwnFrom.and (Own.from (holdsRow_own 0 w.heap.size 22 34 13 (fun pre : List En => pre.length) (fun pre => pre.flatMap enC) (fun _ v => ∀ g, v.ownBlock = some g → w.heap.size ≤ g)) _) (ownFrom_below (Nat.le_refl _) (by omega)))
    (fun _ _ _ _ _ hs _ _ => hs)
    ⟨⟨_, ho1, World.ownsRow_nil W1 0 34 13, fun g h => by cases h⟩, hb0⟩
    (AxC w a len cap no) ?hAx ?assign ?body ?done ?stop
  case hAx =>
    rintro x a' s X Y row ⟨Bx, h1, h2, h3⟩ hg hrow
    exact ⟨Bx, h1, (grownBy_keeps_cells hg (fun r e => (hrow r e).2) h2 rfl).trans h2, h3⟩
  case assign =>
    intro l' pre x W K hi hK
    have hB := hi.2
    have hz := hB.size
    dsimp only [enM, enC, sVal]
    gi_wp2
    refine hK _ _ ((KeepsOthers.alloc _ _).from _) (kp_below ((Below.refl _ W).alloc (Nat.le_refl _) _) (by obtain ⟨⟨v, hv, _⟩, _⟩ := hi; exact hv.lt)) ?_ ⟨W.heap.size, ?_, World.alloc_heap_new W _, rfl⟩
    · obtain ⟨⟨v, hv, hrow, hg⟩, hB⟩ := hi
      exact ⟨⟨v, hv.alloc _, hrow.alloc _, hg⟩, hB.alloc hz _⟩
    · obtain ⟨⟨v, hv, _⟩, _⟩ := hi
      exact hv.lt
  case body =>
    rintro l' pre x a' W hl ⟨r, hr⟩ hi ⟨Bx, hBx, bX, rfl⟩ hlt
    obtain ⟨⟨v, hv, hrow, hg⟩, hB⟩ := hi
    have p0 : W.cell? ⟨Bx, 0, none⟩ = some (.int .i64 x.no) := by rw [cell_of_heap bX]; rfl
    have p1 : W.cell? ⟨Bx, 1, none⟩ = some (.int .i64 x.tick) := by rw [cell_of_heap bX]; rfl
    have p2 : W.cell? ⟨Bx, 2, none⟩ = some (.int .i64 x.kind) := by rw [cell_of_heap bX]; rfl
    have p3 : W.cell? ⟨Bx, 3, none⟩ = some (.int .i64 x.key.1) := by rw [cell_of_heap bX]; rfl
    have p4 : W.cell? ⟨Bx, 4, none⟩ = some (.string ⟨x.key.2.1.toArray⟩) := by rw [cell_of_heap bX]; rfl
    have p5 : W.cell? ⟨Bx, 5, none⟩ = some (.string ⟨x.key.2.2.toArray⟩) := by rw [cell_of_heap bX]; rfl
    have p6 : W.cell? ⟨Bx, 6, none⟩ = some (.int .i64 x.val.1) := by rw [cell_of_heap bX]; rfl
    have p7 : W.cell? ⟨Bx, 7, none⟩ = some (.int .i64 x.val.2.1) := by rw [cell_of_heap bX]; rfl
    have p8 : W.cell? ⟨Bx, 8, none⟩ = some (.string ⟨x.val.2.2.toArray⟩) := by rw [cell_of_heap bX]; rfl
    have p9 : W.cell? ⟨Bx, 9, none⟩ = some (.int .i64 x.cause.1) := by rw [cell_of_heap bX]; rfl
    have p10 : W.cell? ⟨Bx, 10, none⟩ = some (.string ⟨x.cause.2.1.toArray⟩) := by rw [cell_of_heap bX]; rfl
    have p11 : W.cell? ⟨Bx, 11, none⟩ = some (.int .i64 x.cause.2.2) := by rw [cell_of_heap bX]; rfl
    have p12 : W.cell? ⟨Bx, 12, none⟩ = some (.int .i64 x.par) := by rw [cell_of_heap bX]; rfl
    have hvc := hv.cell
    have hvf := hv.frozen
    have hz := hB.size
    obtain ⟨z, hz0, hz1⟩ := zeroEn
    obtain ⟨tmp, htmp⟩ : ∃ tmp, Obj.cells (enC x).toArray 34 = tmp := ⟨_, rfl⟩
    have hcells : ∀ j u, (enC x)[j]? = some u → (W.alloc tmp).cell? ((⟨W.heap.size, 0, none⟩ : Addr).add j) = some u := fun j u hu => by
      have h1 : (W.alloc tmp).heap[W.heap.size]? = some (.cells (enC x).toArray 34) := by rw [htmp]; exact World.alloc_heap_new W _
      have h2 : (⟨W.heap.size, 0, none⟩ : Addr).add j = ⟨W.heap.size, 0 + j, none⟩ := by first | rfl | simp [Addr.add_lit] | simp [Addr.add]
      rw [h2, cell_of_heap h1]
      simpa using hu
    have hsrc := Src.ofSlice (P := Tryd.prog) (W.alloc tmp) (size := 13) (tx := 22) uEns ⟨W.heap.size, 0, none⟩ 1 1 (enC x) rfl hcells (enC_one x)
    have hrow2 := hrow.alloc tmp
    subst htmp
    have hb1 : pre.length + 1 ≤ maxLen := by omega
    have hb2' : (pre.length + 1) * 136 ≤ 140737488355328 := by omega
    have hBl : w.heap.size < W.heap.size := hv.lt
    gi_wp2_with (gi_at_builtin; refine wpListIn_append_src _ rfl _ _ 22 rfl 34 IEn z uEns infoEn hz0 (by rw [sizeEn]; exact hz1) v pre.length (pre.flatMap enC) rfl (by rw [sizeEn]; exact hrow2) _ 1 (enC x) rfl (by rw [sizeEn]; exact hsrc) hb1 (by rw [bytesEn]; exact hb2') ?_; intro v' w1 hown' os' tape' out' size' hwh; rw [sizeEn] at hown'; obtain ⟨g', cap', rfl⟩ := ownsRow_succ hown'; have hgrow : (W.alloc (.cells (enC x).toArray 34)).grownBy w1 v.ownBlock := ⟨os', tape', out', size', fun k hk hne => by
        rcases hwh with ⟨g, h1, h2, h3⟩ | ⟨h1, h2⟩
        · exact h3 k (fun e => hne (by rw [h1, e]))
        · exact h2 k hk⟩; obtain ⟨hv1, hv2, hr2, hk2, hb2⟩ := hv.appended (n₀ := 0) (by decide) hrow (Nat.zero_le _) (Nat.zero_le _) hown' hgrow; have hc1 := hv1.cell; have hf1 := hv1.frozen)
    have hnot : some w.heap.size ≠ v.ownBlock := hv.not_row (by decide) hrow
    have hgo : ∀ g, v.ownBlock = some g → Ow w.heap.size W g := fun g hg => by
      rcases hrow.2 with ⟨rfl, _⟩ | ⟨g', cap, cur, rfl, _⟩
      · cases hg
      · obtain rfl : g' = g := by simpa [Value.ownBlock] using hg
        exact .inr ⟨_, _, _, hvc⟩
    have hsame : ∀ k, k < W.heap.size → k ≠ w.heap.size → v.ownBlock ≠ some k → (w1.setCell ⟨w.heap.size, 0, none⟩ (.slice (some ⟨g', 0, none⟩) (pre.length + 1) cap')).heap[k]? = W.heap[k]? := fun k hk hne hno =>
      (Below.heap_setCell _ _ _ k (fun e => hne e)).trans ((hgrow.block k (by simp; omega) (fun e => hno e.symm)).trans (Below.heap_alloc W _ k hk))
    have hown2 : ∀ k, Ow w.heap.size (w1.setCell ⟨w.heap.size, 0, none⟩ (.slice (some ⟨g', 0, none⟩) (pre.length + 1) cap')) k → k = w.heap.size ∨ k = g' := fun k h => by
      rcases h with h | ⟨off, len', cap2, h⟩
      · exact .inl h
      · rw [hv2.cell] at h
        injection h with h
        injection h with h
        injection h with h
        injection h with h
        exact .inr h.symm
    have hg' : v.ownBlock = some g' ∨ W.heap.size < g' + 1 ∧ g' < w1.heap.size := by
      rcases hwh with ⟨g, h1, h2, h3⟩ | ⟨h1, h2⟩
      · left
        have e : g' = g := by simpa [Value.ownBlock] using h2
        rw [h1, e]
      · right
        rcases h1 with h1 | h1
        · cases h1
        · have e : g' = (W.alloc (.cells (enC x).toArray 34)).heap.size := by simpa [Value.ownBlock] using h1
          rcases hown'.2 with ⟨e0, _⟩ | ⟨g2, c2, cur2, e2, _, hgb, _⟩
          · cases e0
          · injection e2 with e2
            injection e2 with e2
            injection e2 with e2
            have := (Array.getElem?_eq_some_iff.1 hgb).1
            simp at e
            omega
    refine ⟨hk2.from _, ⟨?_, ?_, ?_, ?_⟩, ⟨⟨_, hv2, by simpa [List.flatMap_append] using hr2, ?_⟩, ?_⟩⟩
    · exact hk2.size
    · intro k c e f hno hk
      have hlt' := (Array.getElem?_eq_some_iff.1 hk).1
      exact (hsame k hlt' (fun e => hno (.inl e)) (fun e => hno (hgo k e))).trans hk
    · intro k hk hno ho
      rcases hown2 k ho with e | e
      · exact hno (.inl e)
      · subst e
        rcases hg' with h | h
        · exact hno (hgo _ h)
        · omega
    · intro hgood k ho
      have hsz := hk2.size
      rcases hown2 k ho with e | e
      · omega
      · subst e
        rcases hg' with h | h
        · have := hgood _ (hgo _ h); omega
        · have : w1.heap.size = (w1.setCell ⟨w.heap.size, 0, none⟩ (.slice (some ⟨k, 0, none⟩) (pre.length + 1) cap')).heap.size := by simp
          omega
    · intro g2 h2
      obtain rfl : g' = g2 := by simpa [Value.ownBlock] using h2
      rcases hg' with h | h
      · exact hg _ h
      · omega
    · exact hB.trans ((((Below.refl _ W).alloc hz _).grown hgrow (by simp; omega) (fun j ej => hg j ej)).setCell (p := ⟨w.heap.size, 0, none⟩) (Nat.le_refl _) _)
  case done =>
    rintro D xs W hD rfl ⟨⟨v, hv, hrow, hg⟩, hB⟩ hK
    have hvc := hv.cell
    have hvf := hv.frozen
    gi_wp2
    refine ⟨by simp, .inl ⟨_, _, rfl, run_takeDeferred hK, ?_⟩⟩
    exact ⟨_, results_tmp rfl _ _ _, v, rfl, ownsRow_putObj hrow _ hK rfl, hg, hB.trans (belowK_b (w := w) (Nat.le_refl _) W D _ _ (by omega) hK rfl rfl)⟩
  case stop =>
    rintro D c pre W hD _ h _
    exact h.elim
end Go.HH.W
