/-
  THE STATEMENT 'PrintSources', proved: for every input the law returns true and changes nothing.
-/
import Derived.Test.YthjcaihemgllaaaGreatDoorRows
import Derived.WalkKit
import Derived.ProofKit
import Derived.OpenShut
import Derived.ShutString
import Derived.ChangeOld
import Derived.Below
import Derived.Test.YthjcaihemgllaaaGreatDoorCards
import Derived.Test.YthjcaihemgllaaaGreatDoorTie
import Derived.LaidMore
import Derived.Stop.Joined
import Derived.SevenTiedAt
import Derived.Lib.LaidTab
import Derived.Test.YthjcaihemgllaaaGreatDoorK51
namespace Go.Proofs.YthjcaihemgllaaaGreatDoor.printSources
open Go.ChangeShapes Go.WideShapes Go.ChangeAt Go.RowKit Go.HH
open Go.ChangeMaps (open_string shut_string)
set_option linter.unusedVariables false
set_option maxRecDepth 100000

theorem own : ownKnob Tryz.prog.godebug = none := by kernel_rfl
theorem laidOut : laidOutB Tryz.prog = true := by kernel_rfl
theorem plains : MF Tryz.prog [41, 32, 22, 58, 26, 56, 29, 24, 27, 30, 60, 3, 9] = true := by kernel_rfl

theorem lifted (os : Os) (started : os.Started) (H : Type) (enc : TypeId × Value → H) :
    ReturnsInHanded {} Tryz.checked os 7 .any (fun w args => (Rows.printSourcesSpec.pre enc Tryz.prog Tryz.f7 [] false w args ∧ laidMetH Tryz.prog Zx w) ∧ sizedMet enc Tryz.prog Tryz.f7 (OpenSpec.ofChange Rows.printSourcesSpec) false w args)
      (Rows.printSourcesSpec.post enc Tryz.prog Tryz.f7 false true false false) := by
  refine returnsInHanded_of_change_and (C := Tryz.checked) (X := fun w _ => laidMetH Tryz.prog Zx w) (fun _ _ _ hh h => h.of_heap hh) own started (by kernel_rfl) Tryz.func7
    (ChangeSpec.witness_shaped (enc := enc) (C := Tryz.checked) (os := os) (X := fun w _ => laidMetH Tryz.prog Zx w) false (World.doorLaid Tryz.prog 400 os) #[.slice none 0 0] 8 rfl (World.shaped_of_RefB (by kernel_rfl) (by kernel_rfl)) (by kernel_rfl) (by kernel_rfl) (by kernel_rfl) (mN os _)) ?_
  intro W base args ds gs before hval0 hW _ I4 hL _
  obtain ⟨hGW, hGR⟩ := qq hL
  have HB : ∀ (j : Nat) t v, Tryz.f7.params[j]? = some t → args[j]? = some v → Value.okWide Tryz.prog W .any base t v := hval0
  have hW' := hW
  obtain ⟨p, q, hA0, hV, rfl, iH, qL⟩ := hW
  have hA : DataW.TrodAll enc Tryz.prog W 0 (fun _ => true) true Tryz.f7.params.toList args.toList ds p := hA0
  rw [Tryz.params7] at hA HB
  obtain ⟨v0, vs0, d0, ds0, p0, q0, hargs0, rfl, rfl, h0, r0⟩ := trodAll_cons hA
  obtain ⟨rfl, rfl, rfl⟩ := trodAll_nil r0
  obtain rfl : args = #[v0] := by cases args; simp_all
  obtain ⟨rfl, rfl⟩ := trodVars_none hV
  have lt0 : ∀ x ∈ p0, x.block < W.heap.size := by obtain ⟨m, hm⟩ := h0; exact DataW.trod_lt m _ _ _ hm
  obtain ⟨x0, rp0, hv0⟩ := jd plains (by decide) (HB 0 41 v0 rfl rfl) h0
  obtain ⟨l0, rfl, DK⟩ := mE hv0
  obtain ⟨bx, hc⟩ := O3 l0 DK
  clear hA0 hval0
  refine (fq (C := CC) cu iq (fun g cs h => by
    have h' : Rn g = some cs := h
    unfold Rn at h'
    split at h'
    · rename_i e; subst e; injection h' with h'; subst h'; exact hGW
    · cases h') (fun g cs h => by
    have h' : Rn g = some cs := h
    unfold Rn at h'
    split at h'
    · rename_i e; subst e; injection h' with h'; subst h'; exact hGR
    · cases h') (Ce.cons rp0 (Ce.nil _ _)) (fun p hp t xs => by
    simp only [List.mem_cons, List.not_mem_nil, or_false] at hp
    rcases hp with rfl <;> exact fun h => by cases h) hc jW).mono fun e W' ⟨he, bel⟩ => ?_
  subst he
  exact ⟨_, rfl, _, _, _, [], _, [], hW', trodAll_mk1 (shut_bool Tryz.underlying4 _),
    (trodAll_cons_mk (Below.trod laidOut (by kernel_rfl) (of_decide_eq_true (by kernel_rfl)) h0 bel lt0) trodAll_mk0), rfl, bel.frame _, fun h => by cases h⟩

theorem over : Rows.printSourcesRow.holds Tryz.pinned (OpenSpec.ofChange Rows.printSourcesSpec) :=
  OpenClaim.holds_of_wide 7 Tryz.f7 rfl rfl rfl rfl rfl rfl rfl ⟨rfl, rfl, rfl, rfl, rfl⟩ rfl rfl rfl rfl rfl (by kernel_rfl) Tryz.func7 (by kernel_rfl)
    (of_decide_eq_true (by kernel_rfl)) (by unfold Func.isWrapper; first | (rw [if_pos (by decide +kernel)]; kernel_rfl) | (rw [if_neg (by decide +kernel)]; exact ⟨rfl, rfl⟩))
    (fun os started H enc _ => lifted os started H enc)

/-- THE STATEMENT -/
theorem proved : Rows.PrintSourcesCardSaid :=
  Claim7.holds_tied_plain_at .later [] [.data, .data, .data] true (true, "f934753ed2412591ebd5b6a67124568c734e0a0957838981dd1005c72e4178d0") true
    over (fun _ h => by cases h) (by kernel_rfl) (fun _ h => by cases h) printSources_row_tie rfl ⟨rfl, rfl⟩ (by kernel_rfl) rfl
    (fun f fn hf mW => by
      obtain rfl : f = 7 := Option.some.inj ((show Tryz.prog.funcNamed "homehub/homehublaw30.PrintSources" = some 7 by kernel_rfl).symm.trans hf) |>.symm
      obtain rfl : fn = Tryz.f7 := (Option.some.inj (Tryz.func7.symm.trans mW)).symm
      exact ⟨by kernel_rfl, fun j t ht => by
        rw [Tryz.params7] at ht
        have hm : t ∈ [41] := by simpa using Array.mem_of_getElem? ht
        have D1 : ([41].all fun u => !Tryz.prog.wantsStandIn u) = true := by kernel_rfl
        exact (show Tryz.prog.wantsStandIn t = false by simpa using List.all_eq_true.1 D1 t hm)⟩)
    (by kernel_rfl)
#print axioms proved
end Go.Proofs.YthjcaihemgllaaaGreatDoor.printSources
