/- CoerceEnds: rounds. No condition. -/
import Derived.Test.YtaecedlhiclkdaaGreatEnS
namespace Go.Proofs.YtaecedlhiclkdaaGreat.En
open Go Vx Con
set_option linter.unusedVariables false
set_option linter.constructorNameAsVariable false
set_option maxRecDepth 100000
theorem badB : badK 1 [(.cmp .leq (.sy 2) (.li .u8 2), false)] = true := by kernel_rfl
theorem fPb2 : fstC cPb2 = true := by kernel_rfl
theorem lAaa_21 : rdL cAaa 21 = true := by kernel_rfl
theorem lAaa_25 : rdL cAaa 25 = true := by kernel_rfl
theorem lAaa_47 : rdL cAaa 47 = true := by kernel_rfl
theorem lAba_7 : rdL cAba 7 = true := by kernel_rfl
theorem lLba_3 : rdL cLba 3 = true := by kernel_rfl
theorem lLba_9 : rdL cLba 9 = true := by kernel_rfl
theorem lPa1_7 : rdL cPa1 7 = true := by kernel_rfl
theorem lSaa_1 : rdL cSaa 1 = true := by kernel_rfl
theorem lSaa_35 : rdL cSaa 35 = true := by kernel_rfl
theorem lSba_0 : rdL cSba 0 = true := by kernel_rfl
theorem lTa_0 : rdL cTa 0 = true := by kernel_rfl
theorem pAaa_13 : rdP cAaa 13 = true := by kernel_rfl
theorem pAaa_29 : rdP cAaa 29 = true := by kernel_rfl
theorem pAba_7 : rdP cAba 7 = true := by kernel_rfl
theorem pPa0_11 : rdP cPa0 11 = true := by kernel_rfl
theorem pSaa_23 : rdP cSaa 23 = true := by kernel_rfl
theorem pSaa_3 : rdP cSaa 3 = true := by kernel_rfl
theorem pSaa_75 : rdP cSaa 75 = true := by kernel_rfl
theorem pTa_0 : rdP cTa 0 = true := by kernel_rfl
theorem tAaa_77 : rdT cAaa 77 = true := by kernel_rfl
theorem tAba_5 : rdT cAba 5 = true := by kernel_rfl
theorem tPa0_12 : rdT cPa0 12 = true := by kernel_rfl
theorem tPa1_13 : rdT cPa1 13 = true := by kernel_rfl
theorem tSaa_50 : rdT cSaa 50 = true := by kernel_rfl
theorem tSaa_72 : rdT cSaa 72 = true := by kernel_rfl
theorem tSab_14 : rdT cSab 14 = true := by kernel_rfl
theorem tSba_4 : rdT cSba 4 = true := by kernel_rfl
theorem tSba_8 : rdT cSba 8 = true := by kernel_rfl
theorem tTa_14 : rdT cTa 14 = true := by kernel_rfl
theorem tTa_16 : rdT cTa 16 = true := by kernel_rfl
theorem tTa_8 : rdT cTa 8 = true := by kernel_rfl
theorem zSaa : nilC cSaa = true := by kernel_rfl
theorem zSab : nilC cSab = true := by kernel_rfl
end Go.Proofs.YtaecedlhiclkdaaGreat.En
