/-
  Logs: the examples of the chapter; the functions that the interpreter takes.
-/
import Derived.Test.YtbbhmdpbojoheaaDoorY2
namespace Go.HH
open Go Go.Proofs
set_option maxRecDepth 100000
set_option linter.unusedSimpArgs false
set_option linter.unusedVariables false
theorem ok_why_Check : fnOK CC Tryd.f9 (Tryd.f9.body.getD .skip) = true := by kernel_rfl
theorem fat_why_Check : CC.P.funcs[9]? = some Tryd.f9 := by kernel_rfl
theorem ok_R56_Check : fnOK CC Tryd.f10 (Tryd.f10.body.getD .skip) = true := by kernel_rfl
theorem fat_R56_Check : CC.P.funcs[10]? = some Tryd.f10 := by kernel_rfl
theorem ok_why_Last : fnOK CC Tryd.f12 (Tryd.f12.body.getD .skip) = true := by kernel_rfl
theorem fat_why_Last : CC.P.funcs[12]? = some Tryd.f12 := by kernel_rfl
theorem ok_R56_Last : fnOK CC Tryd.f13 (Tryd.f13.body.getD .skip) = true := by kernel_rfl
theorem fat_R56_Last : CC.P.funcs[13]? = some Tryd.f13 := by kernel_rfl
theorem ok_why_concerns : fnOK CC Tryd.f26 (Tryd.f26.body.getD .skip) = true := by kernel_rfl
theorem fat_why_concerns : CC.P.funcs[26]? = some Tryd.f26 := by kernel_rfl
theorem ok_R56_Chain : fnOK CC Tryd.f16 (Tryd.f16.body.getD .skip) = true := by kernel_rfl
theorem fat_R56_Chain : CC.P.funcs[16]? = some Tryd.f16 := by kernel_rfl
theorem ok_R56_find : fnOK CC Tryd.f28 (Tryd.f28.body.getD .skip) = true := by kernel_rfl
theorem fat_R56_find : CC.P.funcs[28]? = some Tryd.f28 := by kernel_rfl
theorem ok_why_Why : fnOK CC Tryd.f17 (Tryd.f17.body.getD .skip) = true := by kernel_rfl
theorem fat_why_Why : CC.P.funcs[17]? = some Tryd.f17 := by kernel_rfl
theorem ok_R56_Why : fnOK CC Tryd.f18 (Tryd.f18.body.getD .skip) = true := by kernel_rfl
theorem fat_R56_Why : CC.P.funcs[18]? = some Tryd.f18 := by kernel_rfl
theorem ok_why_Trim : fnOK CC Tryd.f21 (Tryd.f21.body.getD .skip) = true := by kernel_rfl
theorem fat_why_Trim : CC.P.funcs[21]? = some Tryd.f21 := by kernel_rfl
theorem ok_R56_Trim : fnOK CC Tryd.f22 (Tryd.f22.body.getD .skip) = true := by kernel_rfl
theorem fat_R56_Trim : CC.P.funcs[22]? = some Tryd.f22 := by kernel_rfl
theorem ok_why_Count : fnOK CC Tryd.f23 (Tryd.f23.body.getD .skip) = true := by kernel_rfl
theorem fat_why_Count : CC.P.funcs[23]? = some Tryd.f23 := by kernel_rfl
theorem ok_R56_Count : fnOK CC Tryd.f24 (Tryd.f24.body.getD .skip) = true := by kernel_rfl
theorem fat_R56_Count : CC.P.funcs[24]? = some Tryd.f24 := by kernel_rfl
theorem ok_L56_same : fnOK CC Tryd.f14 (Tryd.f14.body.getD .skip) = true := by kernel_rfl
theorem fat_L56_same : CC.P.funcs[14]? = some Tryd.f14 := by kernel_rfl
theorem ok_L56_WhyChecks : fnOK CC Tryd.f3 (Tryd.f3.body.getD .skip) = true := by kernel_rfl
theorem fat_L56_WhyChecks : CC.P.funcs[3]? = some Tryd.f3 := by kernel_rfl
theorem ok_L56_WhyChains : fnOK CC Tryd.f4 (Tryd.f4.body.getD .skip) = true := by kernel_rfl
theorem fat_L56_WhyChains : CC.P.funcs[4]? = some Tryd.f4 := by kernel_rfl
theorem ok_L56_WhyTexts : fnOK CC Tryd.f5 (Tryd.f5.body.getD .skip) = true := by kernel_rfl
theorem fat_L56_WhyTexts : CC.P.funcs[5]? = some Tryd.f5 := by kernel_rfl
theorem ok_L56_WhyTrims : fnOK CC Tryd.f7 (Tryd.f7.body.getD .skip) = true := by kernel_rfl
theorem fat_L56_WhyTrims : CC.P.funcs[7]? = some Tryd.f7 := by kernel_rfl
theorem ok_L56_WhyDescends : fnOK CC Tryd.f6 (Tryd.f6.body.getD .skip) = true := by kernel_rfl
theorem fat_L56_WhyDescends : CC.P.funcs[6]? = some Tryd.f6 := by kernel_rfl
theorem ok_L56_WhyKeeps : fnOK CC Tryd.f8 (Tryd.f8.body.getD .skip) = true := by kernel_rfl
theorem fat_L56_WhyKeeps : CC.P.funcs[8]? = some Tryd.f8 := by kernel_rfl
theorem ok_why_Text : fnOK CC Tryd.f19 (Tryd.f19.body.getD .skip) = true := by kernel_rfl
theorem fat_why_Text : CC.P.funcs[19]? = some Tryd.f19 := by kernel_rfl
theorem ok_R56_Text : fnOK CC Tryd.f20 (Tryd.f20.body.getD .skip) = true := by kernel_rfl
theorem fat_R56_Text : CC.P.funcs[20]? = some Tryd.f20 := by kernel_rfl
theorem ok_why_word : fnOK CC Tryd.f30 (Tryd.f30.body.getD .skip) = true := by kernel_rfl
theorem fat_why_word : CC.P.funcs[30]? = some Tryd.f30 := by kernel_rfl
theorem ok_R56_word : fnOK CC Tryd.f35 (Tryd.f35.body.getD .skip) = true := by kernel_rfl
theorem fat_R56_word : CC.P.funcs[35]? = some Tryd.f35 := by kernel_rfl
theorem ok_why_name : fnOK CC Tryd.f31 (Tryd.f31.body.getD .skip) = true := by kernel_rfl
theorem fat_why_name : CC.P.funcs[31]? = some Tryd.f31 := by kernel_rfl
theorem ok_why_origin : fnOK CC Tryd.f33 (Tryd.f33.body.getD .skip) = true := by kernel_rfl
theorem fat_why_origin : CC.P.funcs[33]? = some Tryd.f33 := by kernel_rfl
noncomputable def okAw : Bool := match callF CC 200 11 [] [] with
  | some (.ret (.bool true), _) => true
  | _ => false
theorem okAw_ok : okAw = true := by kernel_rfl
theorem op_awake (bx) : callOp CC (callL CC) 11 [] bx = some (.ret (.bool true), bx) := by
  have h := okAw_ok
  unfold okAw at h
  split at h
  · rename_i b hs
    exact callOp_of rfl rfl (callL_iff.2 ⟨200, hs⟩) rfl
  · cases h
end Go.HH
