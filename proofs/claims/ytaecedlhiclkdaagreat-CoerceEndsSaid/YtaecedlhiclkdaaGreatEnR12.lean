/- CoerceEnds: rounds. No condition. -/
import Derived.Test.YtaecedlhiclkdaaGreatEnS
namespace Go.Proofs.YtaecedlhiclkdaaGreat.En
open Go Vx Con
set_option linter.unusedVariables false
set_option linter.constructorNameAsVariable false
set_option maxRecDepth 100000
theorem lAaa_17 : rdL cAaa 17 = true := by kernel_rfl
theorem lAaa_43 : rdL cAaa 43 = true := by kernel_rfl
theorem lAaa_59 : rdL cAaa 59 = true := by kernel_rfl
theorem lLab_0 : rdL cLab 0 = true := by kernel_rfl
theorem lLab_1 : rdL cLab 1 = true := by kernel_rfl
theorem lLba_11 : rdL cLba 11 = true := by kernel_rfl
theorem lNa_3 : rdL cNa 3 = true := by kernel_rfl
theorem lNa_9 : rdL cNa 9 = true := by kernel_rfl
theorem lPa0_0 : rdL cPa0 0 = true := by kernel_rfl
theorem lSaa_47 : rdL cSaa 47 = true := by kernel_rfl
theorem lSab_9 : rdL cSab 9 = true := by kernel_rfl
theorem pAaa_39 : rdP cAaa 39 = true := by kernel_rfl
theorem pAaa_9 : rdP cAaa 9 = true := by kernel_rfl
theorem pAab_9 : rdP cAab 9 = true := by kernel_rfl
theorem pLba_7 : rdP cLba 7 = true := by kernel_rfl
theorem pPa0_1 : rdP cPa0 1 = true := by kernel_rfl
theorem pSaa_27 : rdP cSaa 27 = true := by kernel_rfl
theorem pSaa_35 : rdP cSaa 35 = true := by kernel_rfl
theorem pSaa_51 : rdP cSaa 51 = true := by kernel_rfl
theorem pSab_3 : rdP cSab 3 = true := by kernel_rfl
theorem pTa_3 : rdP cTa 3 = true := by kernel_rfl
theorem tAab_6 : rdT cAab 6 = true := by kernel_rfl
theorem tAab_8 : rdT cAab 8 = true := by kernel_rfl
theorem tLab_10 : rdT cLab 10 = true := by kernel_rfl
theorem tLab_4 : rdT cLab 4 = true := by kernel_rfl
theorem tPa0_8 : rdT cPa0 8 = true := by kernel_rfl
theorem tPa1_15 : rdT cPa1 15 = true := by kernel_rfl
theorem tSaa_31 : rdT cSaa 31 = true := by kernel_rfl
theorem tSaa_62 : rdT cSaa 62 = true := by kernel_rfl
theorem tSaa_73 : rdT cSaa 73 = true := by kernel_rfl
theorem tSab_5 : rdT cSab 5 = true := by kernel_rfl
theorem tSbb_0 : rdT cSbb 0 = true := by kernel_rfl
theorem zSbb : nilC cSbb = true := by kernel_rfl
theorem zTa : nilC cTa = true := by kernel_rfl
end Go.Proofs.YtaecedlhiclkdaaGreat.En
