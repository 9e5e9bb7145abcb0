/-
  THE STATEMENT 'WhyKeeps', proved: for every input the law returns true and changes nothing.
-/
import Derived.Test.YtbbhmdpbojoheaaDoorRows
import Derived.WalkKit
import Derived.ProofKit
import Derived.OpenShut
import Derived.ShutString
import Derived.ChangeOld
import Derived.Below
import Derived.Test.YtbbhmdpbojoheaaDoorShape
import Derived.Test.YtbbhmdpbojoheaaDoorY7
import Derived.Test.YtbbhmdpbojoheaaDoorYZ
import Derived.Test.YtbbhmdpbojoheaaDoorHB
import Derived.Test.YtbbhmdpbojoheaaDoorL0
import Derived.Test.YtbbhmdpbojoheaaDoorCards
import Derived.Test.YtbbhmdpbojoheaaDoorTie
import Derived.LaidMore
import Derived.Stop.Joined
import Derived.SevenTiedAt
import Derived.Lib.LaidTab
namespace Go.Proofs.YtbbhmdpbojoheaaDoor.whyKeeps
open Go.ChangeShapes Go.WideShapes Go.ChangeAt Go.RowKit Go.HH
open Go.ChangeMaps (open_string shut_string)
set_option linter.unusedVariables false
set_option maxRecDepth 100000

theorem own : ownKnob Tryd.prog.godebug = none := by kernel_rfl
theorem laidOut : laidOutB Tryd.prog = true := by kernel_rfl
theorem plains : plainIn Tryd.prog [22, 34, 28, 30, 32, 3, 9] = true := by kernel_rfl

theorem lifted (os : Os) (started : os.Started) (H : Type) (enc : TypeId × Value → H) :
    ReturnsInHanded {} Tryd.checked os 8 .any (fun w args => (Rows.whyKeepsSpec.pre enc Tryd.prog Tryd.f8 [] false w args ∧ laidMetH Tryd.prog laidL w) ∧ sizedMet enc Tryd.prog Tryd.f8 (OpenSpec.ofChange Rows.whyKeepsSpec) false w args)
      (Rows.whyKeepsSpec.post enc Tryd.prog Tryd.f8 false true false false) := by
  refine returnsInHanded_of_change_and (C := Tryd.checked) (X := fun w _ => laidMetH Tryd.prog laidL w) (fun _ _ _ hh h => h.of_heap hh) own started (by kernel_rfl) Tryd.func8
    (ChangeSpec.witness_shaped (enc := enc) (C := Tryd.checked) (os := os) (X := fun w _ => laidMetH Tryd.prog laidL w) false (World.doorLaid Tryd.prog 400 os) #[.slice none 0 0, .int .i64 0, .int .i64 0] 8 rfl (World.shaped_of_RefB (by kernel_rfl) (by kernel_rfl)) (by kernel_rfl) (by kernel_rfl) (by kernel_rfl) (door_met os _)) ?_
  intro W base args ds gs before hval0 hW _ hsz hL _
  obtain ⟨hGW, hGR⟩ := of_laid hL
  have hval : ∀ (j : Nat) t v, Tryd.f8.params[j]? = some t → args[j]? = some v → Value.okWide Tryd.prog W .any base t v := hval0
  have hW' := hW
  obtain ⟨p, q, hA0, hV, rfl, hfz, hnd⟩ := hW
  have hA : DataW.TrodAll enc Tryd.prog W 0 (fun _ => true) true Tryd.f8.params.toList args.toList ds p := hA0
  rw [Tryd.params8] at hA hval
  obtain ⟨v0, vs0, d0, ds0, p0, q0, hargs0, rfl, rfl, h0, r0⟩ := trodAll_cons hA
  obtain ⟨v1, vs1, d1, ds1, p1, q1, hargs1, rfl, rfl, h1, r1⟩ := trodAll_cons r0
  obtain ⟨v2, vs2, d2, ds2, p2, q2, hargs2, rfl, rfl, h2, r2⟩ := trodAll_cons r1
  obtain ⟨rfl, rfl, rfl⟩ := trodAll_nil r2
  obtain rfl : args = #[v0, v1, v2] := by cases args; simp_all
  obtain ⟨rfl, rfl⟩ := trodVars_none hV
  have lt0 : ∀ x ∈ p0, x.block < W.heap.size := by obtain ⟨m, hm⟩ := h0; exact DataW.trod_lt m _ _ _ hm
  have lt1 : ∀ x ∈ p1, x.block < W.heap.size := by obtain ⟨m, hm⟩ := h1; exact DataW.trod_lt m _ _ _ hm
  have lt2 : ∀ x ∈ p2, x.block < W.heap.size := by obtain ⟨m, hm⟩ := h2; exact DataW.trod_lt m _ _ _ hm
  obtain ⟨x0, rp0, hv0⟩ := read_arg plains (by decide) (hval 0 22 v0 rfl rfl) h0
  obtain ⟨x1, rp1, hv1⟩ := read_arg plains (by decide) (hval 1 3 v1 rfl rfl) h1
  obtain ⟨x2, rp2, hv2⟩ := read_arg plains (by decide) (hval 2 3 v2 rfl rfl) h2
  obtain ⟨l0, rfl, hi0⟩ := hasV_log hv0
  have sm0 := sm_of hsz (j := 0) (by rw [Tryd.params8]; rfl) rfl h0 rp0
  obtain ⟨l1, rfl, hi1⟩ := hasV_int Tryd.underlying3 hv1
  obtain ⟨l2, rfl, hi2⟩ := hasV_int Tryd.underlying3 hv2
  obtain ⟨bx, hc⟩ := law_WhyKeeps l0 sm0 l1 hi1 l2 hi2
  clear hA0 hval0
  refine (law_calls (C := CC) hprimSound primSound (fun g cs h => by
    have h' : globCC g = some cs := h
    unfold globCC at h'
    split at h'
    · rename_i e; subst e; injection h' with h'; subst h'; exact hGW
    · cases h') (fun g cs h => by
    have h' : globCC g = some cs := h
    unfold globCC at h'
    split at h'
    · rename_i e; subst e; injection h' with h'; subst h'; exact hGR
    · cases h') (RepL.cons rp0 (RepL.cons rp1 (RepL.cons rp2 (RepL.nil _ _)))) (fun p hp t xs => by
    simp only [List.mem_cons, List.not_mem_nil, or_false] at hp
    rcases hp with rfl | rfl | rfl <;> exact fun h => by cases h) hc).mono fun e W' ⟨he, bel⟩ => ?_
  subst he
  exact ⟨_, rfl, _, _, _, [], _, [], hW', trodAll_mk1 (shut_bool Tryd.underlying4 _),
    (trodAll_cons_mk (Below.trod laidOut (by kernel_rfl) (of_decide_eq_true (by kernel_rfl)) h0 bel lt0) (trodAll_cons_mk (Below.trod laidOut (by kernel_rfl) (of_decide_eq_true (by kernel_rfl)) h1 bel lt1) (trodAll_cons_mk (Below.trod laidOut (by kernel_rfl) (of_decide_eq_true (by kernel_rfl)) h2 bel lt2) trodAll_mk0))), rfl, bel.frame _, fun h => by cases h⟩

theorem over : Rows.whyKeepsRow.holds Tryd.pinned (OpenSpec.ofChange Rows.whyKeepsSpec) :=
  OpenClaim.holds_of_wide 8 Tryd.f8 rfl rfl rfl rfl rfl rfl rfl ⟨rfl, rfl, rfl, rfl, rfl⟩ rfl rfl rfl rfl rfl (by kernel_rfl) Tryd.func8 (by kernel_rfl)
    (of_decide_eq_true (by kernel_rfl)) (by unfold Func.isWrapper; first | (rw [if_pos (by decide +kernel)]; kernel_rfl) | (rw [if_neg (by decide +kernel)]; exact ⟨rfl, rfl⟩))
    (fun os started H enc _ => lifted os started H enc)

/-- THE STATEMENT -/
theorem proved : Rows.WhyKeepsCardSaid :=
  Claim7.holds_tied_plain_at .later [] [.data, .data, .data] true (true, "c30d43f8f86ea8fa82847790d4726a5a218be4fa2b2a67afd016cd747194e9b5") false
    over (fun _ h => by cases h) (by kernel_rfl) (fun _ h => by cases h) whyKeeps_row_tie rfl ⟨rfl, rfl⟩ (by kernel_rfl) rfl
    (fun f fn hf hfn => by
      obtain rfl : f = 8 := Option.some.inj ((show Tryd.prog.funcNamed "homehub/homehublaw56.WhyKeeps" = some 8 by kernel_rfl).symm.trans hf) |>.symm
      obtain rfl : fn = Tryd.f8 := (Option.some.inj (Tryd.func8.symm.trans hfn)).symm
      exact ⟨by kernel_rfl, fun j t ht => by
        rw [Tryd.params8] at ht
        have hm : t ∈ [22, 3, 3] := by simpa using Array.mem_of_getElem? ht
        have hall : ([22, 3, 3].all fun u => !Tryd.prog.wantsStandIn u) = true := by kernel_rfl
        exact (show Tryd.prog.wantsStandIn t = false by simpa using List.all_eq_true.1 hall t hm)⟩)
    (by kernel_rfl)
#print axioms proved
end Go.Proofs.YtbbhmdpbojoheaaDoor.whyKeeps
