/- CoerceEnds: rounds. No condition. -/
import Derived.Test.YtaecedlhiclkdaaGreatEnS
namespace Go.Proofs.YtaecedlhiclkdaaGreat.En
open Go Vx Con
set_option linter.unusedVariables false
set_option linter.constructorNameAsVariable false
set_option maxRecDepth 100000
theorem fLbb : fstC cLbb = true := by kernel_rfl
theorem fPa0 : fstC cPa0 = true := by kernel_rfl
theorem fSaa : fstC cSaa = true := by kernel_rfl
theorem lAaa_29 : rdL cAaa 29 = true := by kernel_rfl
theorem lAaa_3 : rdL cAaa 3 = true := by kernel_rfl
theorem lAaa_35 : rdL cAaa 35 = true := by kernel_rfl
theorem lAaa_51 : rdL cAaa 51 = true := by kernel_rfl
theorem lAaa_65 : rdL cAaa 65 = true := by kernel_rfl
theorem lAaa_7 : rdL cAaa 7 = true := by kernel_rfl
theorem lKa_7 : rdL cKa 7 = true := by kernel_rfl
theorem lPa2_1 : rdL cPa2 1 = true := by kernel_rfl
theorem lSaa_15 : rdL cSaa 15 = true := by kernel_rfl
theorem lSaa_23 : rdL cSaa 23 = true := by kernel_rfl
theorem lSaa_39 : rdL cSaa 39 = true := by kernel_rfl
theorem lSba_1 : rdL cSba 1 = true := by kernel_rfl
theorem pAaa_51 : rdP cAaa 51 = true := by kernel_rfl
theorem pPa0_0 : rdP cPa0 0 = true := by kernel_rfl
theorem pPa2_1 : rdP cPa2 1 = true := by kernel_rfl
theorem pPa2_9 : rdP cPa2 9 = true := by kernel_rfl
theorem pSaa_0 : rdP cSaa 0 = true := by kernel_rfl
theorem pSaa_71 : rdP cSaa 71 = true := by kernel_rfl
theorem pTa_11 : rdP cTa 11 = true := by kernel_rfl
theorem tAab_12 : rdT cAab 12 = true := by kernel_rfl
theorem tKa_13 : rdT cKa 13 = true := by kernel_rfl
theorem tKa_15 : rdT cKa 15 = true := by kernel_rfl
theorem tPa1_5 : rdT cPa1 5 = true := by kernel_rfl
theorem tPa2_12 : rdT cPa2 12 = true := by kernel_rfl
theorem tPb0_0 : rdT cPb0 0 = true := by kernel_rfl
theorem tSaa_54 : rdT cSaa 54 = true := by kernel_rfl
theorem tSaa_64 : rdT cSaa 64 = true := by kernel_rfl
theorem tSaa_8 : rdT cSaa 8 = true := by kernel_rfl
theorem tSab_16 : rdT cSab 16 = true := by kernel_rfl
theorem tSba_13 : rdT cSba 13 = true := by kernel_rfl
theorem tTa_6 : rdT cTa 6 = true := by kernel_rfl
theorem zPa0 : nilC cPa0 = true := by kernel_rfl
theorem zPb0 : nilC cPb0 = true := by kernel_rfl
end Go.Proofs.YtaecedlhiclkdaaGreat.En
