/- CoerceEnds: rounds. No condition. -/
import Derived.Test.YtaecedlhiclkdaaGreatEnS
namespace Go.Proofs.YtaecedlhiclkdaaGreat.En
open Go Vx Con
set_option linter.unusedVariables false
set_option linter.constructorNameAsVariable false
set_option maxRecDepth 100000
theorem badA : badC [kF 1, kF 2, kF 3, kF 4, kF 5, kF 6, kF 7] = true := by kernel_rfl
theorem lAaa_23 : rdL cAaa 23 = true := by kernel_rfl
theorem lAba_3 : rdL cAba 3 = true := by kernel_rfl
theorem lLba_1 : rdL cLba 1 = true := by kernel_rfl
theorem lLba_7 : rdL cLba 7 = true := by kernel_rfl
theorem lPa1_11 : rdL cPa1 11 = true := by kernel_rfl
theorem lPa2_0 : rdL cPa2 0 = true := by kernel_rfl
theorem lSaa_0 : rdL cSaa 0 = true := by kernel_rfl
theorem lSaa_33 : rdL cSaa 33 = true := by kernel_rfl
theorem lSaa_75 : rdL cSaa 75 = true := by kernel_rfl
theorem pAaa_25 : rdP cAaa 25 = true := by kernel_rfl
theorem pAaa_43 : rdP cAaa 43 = true := by kernel_rfl
theorem pPa0_3 : rdP cPa0 3 = true := by kernel_rfl
theorem pSaa_33 : rdP cSaa 33 = true := by kernel_rfl
theorem pSaa_41 : rdP cSaa 41 = true := by kernel_rfl
theorem pSaa_57 : rdP cSaa 57 = true := by kernel_rfl
theorem pSab_11 : rdP cSab 11 = true := by kernel_rfl
theorem pSba_0 : rdP cSba 0 = true := by kernel_rfl
theorem pSba_1 : rdP cSba 1 = true := by kernel_rfl
theorem pTa_1 : rdP cTa 1 = true := by kernel_rfl
theorem pTa_9 : rdP cTa 9 = true := by kernel_rfl
theorem tAaa_19 : rdT cAaa 19 = true := by kernel_rfl
theorem tAaa_45 : rdT cAaa 45 = true := by kernel_rfl
theorem tAaa_61 : rdT cAaa 61 = true := by kernel_rfl
theorem tAab_10 : rdT cAab 10 = true := by kernel_rfl
theorem tAab_16 : rdT cAab 16 = true := by kernel_rfl
theorem tLab_6 : rdT cLab 6 = true := by kernel_rfl
theorem tLba_13 : rdT cLba 13 = true := by kernel_rfl
theorem tLba_15 : rdT cLba 15 = true := by kernel_rfl
theorem tNa_5 : rdT cNa 5 = true := by kernel_rfl
theorem tPa0_10 : rdT cPa0 10 = true := by kernel_rfl
theorem tSab_12 : rdT cSab 12 = true := by kernel_rfl
theorem tTa_12 : rdT cTa 12 = true := by kernel_rfl
theorem zPa2 : nilC cPa2 = true := by kernel_rfl
end Go.Proofs.YtaecedlhiclkdaaGreat.En
