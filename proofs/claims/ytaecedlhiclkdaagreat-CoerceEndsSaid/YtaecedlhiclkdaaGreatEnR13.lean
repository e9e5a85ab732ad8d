/- CoerceEnds: rounds. No condition. -/
import Derived.Test.YtaecedlhiclkdaaGreatEnS
namespace Go.Proofs.YtaecedlhiclkdaaGreat.En
open Go Vx Con
set_option linter.unusedVariables false
set_option linter.constructorNameAsVariable false
set_option maxRecDepth 100000
theorem lAab_9 : rdL cAab 9 = true := by kernel_rfl
theorem lLba_0 : rdL cLba 0 = true := by kernel_rfl
theorem lPa0_7 : rdL cPa0 7 = true := by kernel_rfl
theorem lPa0_9 : rdL cPa0 9 = true := by kernel_rfl
theorem lPa1_0 : rdL cPa1 0 = true := by kernel_rfl
theorem lSab_11 : rdL cSab 11 = true := by kernel_rfl
theorem lTa_11 : rdL cTa 11 = true := by kernel_rfl
theorem pAaa_11 : rdP cAaa 11 = true := by kernel_rfl
theorem pAaa_23 : rdP cAaa 23 = true := by kernel_rfl
theorem pAaa_41 : rdP cAaa 41 = true := by kernel_rfl
theorem pAba_0 : rdP cAba 0 = true := by kernel_rfl
theorem pLba_1 : rdP cLba 1 = true := by kernel_rfl
theorem pLba_9 : rdP cLba 9 = true := by kernel_rfl
theorem pSaa_29 : rdP cSaa 29 = true := by kernel_rfl
theorem pSaa_39 : rdP cSaa 39 = true := by kernel_rfl
theorem pSaa_55 : rdP cSaa 55 = true := by kernel_rfl
theorem pTa_7 : rdP cTa 7 = true := by kernel_rfl
theorem tAaa_18 : rdT cAaa 18 = true := by kernel_rfl
theorem tAaa_44 : rdT cAaa 44 = true := by kernel_rfl
theorem tAaa_60 : rdT cAaa 60 = true := by kernel_rfl
theorem tAab_15 : rdT cAab 15 = true := by kernel_rfl
theorem tAbb_0 : rdT cAbb 0 = true := by kernel_rfl
theorem tLab_2 : rdT cLab 2 = true := by kernel_rfl
theorem tLab_5 : rdT cLab 5 = true := by kernel_rfl
theorem tLba_12 : rdT cLba 12 = true := by kernel_rfl
theorem tNa_10 : rdT cNa 10 = true := by kernel_rfl
theorem tNa_4 : rdT cNa 4 = true := by kernel_rfl
theorem tPa1_16 : rdT cPa1 16 = true := by kernel_rfl
theorem tSaa_32 : rdT cSaa 32 = true := by kernel_rfl
theorem tSaa_48 : rdT cSaa 48 = true := by kernel_rfl
theorem tSaa_74 : rdT cSaa 74 = true := by kernel_rfl
theorem tSab_10 : rdT cSab 10 = true := by kernel_rfl
theorem tSab_6 : rdT cSab 6 = true := by kernel_rfl
theorem zAbb : nilC cAbb = true := by kernel_rfl
end Go.Proofs.YtaecedlhiclkdaaGreat.En
