/- CoerceEnds: rounds. No condition. -/
import Derived.Test.YtaecedlhiclkdaaGreatEnS
namespace Go.Proofs.YtaecedlhiclkdaaGreat.En
open Go Vx Con
set_option linter.unusedVariables false
set_option linter.constructorNameAsVariable false
set_option maxRecDepth 100000
theorem badV : badC [(mA 3, false)] = true := by kernel_rfl
theorem lNa_0 : rdL cNa 0 = true := by kernel_rfl
theorem lPa0_11 : rdL cPa0 11 = true := by kernel_rfl
theorem lSab_0 : rdL cSab 0 = true := by kernel_rfl
theorem lSba_3 : rdL cSba 3 = true := by kernel_rfl
theorem lSba_7 : rdL cSba 7 = true := by kernel_rfl
theorem lTa_7 : rdL cTa 7 = true := by kernel_rfl
theorem pAaa_27 : rdP cAaa 27 = true := by kernel_rfl
theorem pAaa_47 : rdP cAaa 47 = true := by kernel_rfl
theorem pAba_1 : rdP cAba 1 = true := by kernel_rfl
theorem pLba_0 : rdP cLba 0 = true := by kernel_rfl
theorem pPa1_1 : rdP cPa1 1 = true := by kernel_rfl
theorem pPa2_7 : rdP cPa2 7 = true := by kernel_rfl
theorem pSaa_43 : rdP cSaa 43 = true := by kernel_rfl
theorem pSaa_59 : rdP cSaa 59 = true := by kernel_rfl
theorem pSba_11 : rdP cSba 11 = true := by kernel_rfl
theorem tAaa_20 : rdT cAaa 20 = true := by kernel_rfl
theorem tAaa_24 : rdT cAaa 24 = true := by kernel_rfl
theorem tAaa_46 : rdT cAaa 46 = true := by kernel_rfl
theorem tAaa_62 : rdT cAaa 62 = true := by kernel_rfl
theorem tAba_4 : rdT cAba 4 = true := by kernel_rfl
theorem tLba_14 : rdT cLba 14 = true := by kernel_rfl
theorem tLba_16 : rdT cLba 16 = true := by kernel_rfl
theorem tLba_2 : rdT cLba 2 = true := by kernel_rfl
theorem tLba_8 : rdT cLba 8 = true := by kernel_rfl
theorem tNa_6 : rdT cNa 6 = true := by kernel_rfl
theorem tPa1_12 : rdT cPa1 12 = true := by kernel_rfl
theorem tSaa_34 : rdT cSaa 34 = true := by kernel_rfl
theorem tSaa_49 : rdT cSaa 49 = true := by kernel_rfl
theorem tSaa_76 : rdT cSaa 76 = true := by kernel_rfl
theorem tSab_13 : rdT cSab 13 = true := by kernel_rfl
theorem tTa_13 : rdT cTa 13 = true := by kernel_rfl
theorem tTa_15 : rdT cTa 15 = true := by kernel_rfl
theorem zAba : nilC cAba = true := by kernel_rfl
end Go.Proofs.YtaecedlhiclkdaaGreat.En
