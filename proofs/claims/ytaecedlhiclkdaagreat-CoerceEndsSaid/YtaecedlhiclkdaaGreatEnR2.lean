/- CoerceEnds: rounds. No condition. -/
import Derived.Test.YtaecedlhiclkdaaGreatEnS
namespace Go.Proofs.YtaecedlhiclkdaaGreat.En
open Go Vx Con
set_option linter.unusedVariables false
set_option linter.constructorNameAsVariable false
set_option maxRecDepth 100000
theorem badW6 : badK 6 [(mA 3, true), (mA 7, false)] = true := by kernel_rfl
theorem fTb : fstC cTb = true := by kernel_rfl
theorem lAaa_27 : rdL cAaa 27 = true := by kernel_rfl
theorem lAab_0 : rdL cAab 0 = true := by kernel_rfl
theorem lAba_9 : rdL cAba 9 = true := by kernel_rfl
theorem lKa_11 : rdL cKa 11 = true := by kernel_rfl
theorem lPa0_1 : rdL cPa0 1 = true := by kernel_rfl
theorem lPa1_1 : rdL cPa1 1 = true := by kernel_rfl
theorem lPa1_9 : rdL cPa1 9 = true := by kernel_rfl
theorem lSaa_13 : rdL cSaa 13 = true := by kernel_rfl
theorem lSab_1 : rdL cSab 1 = true := by kernel_rfl
theorem lSba_11 : rdL cSba 11 = true := by kernel_rfl
theorem pAaa_17 : rdP cAaa 17 = true := by kernel_rfl
theorem pAab_11 : rdP cAab 11 = true := by kernel_rfl
theorem pAab_3 : rdP cAab 3 = true := by kernel_rfl
theorem pKa_7 : rdP cKa 7 = true := by kernel_rfl
theorem pPa2_11 : rdP cPa2 11 = true := by kernel_rfl
theorem pPa2_3 : rdP cPa2 3 = true := by kernel_rfl
theorem pSaa_1 : rdP cSaa 1 = true := by kernel_rfl
theorem pSaa_47 : rdP cSaa 47 = true := by kernel_rfl
theorem pSaa_65 : rdP cSaa 65 = true := by kernel_rfl
theorem pSaa_9 : rdP cSaa 9 = true := by kernel_rfl
theorem pSab_9 : rdP cSab 9 = true := by kernel_rfl
theorem tAaa_49 : rdT cAaa 49 = true := by kernel_rfl
theorem tAaa_63 : rdT cAaa 63 = true := by kernel_rfl
theorem tAba_15 : rdT cAba 15 = true := by kernel_rfl
theorem tLba_5 : rdT cLba 5 = true := by kernel_rfl
theorem tPa0_14 : rdT cPa0 14 = true := by kernel_rfl
theorem tSaa_37 : rdT cSaa 37 = true := by kernel_rfl
theorem tSaa_52 : rdT cSaa 52 = true := by kernel_rfl
theorem tSaa_77 : rdT cSaa 77 = true := by kernel_rfl
theorem tSba_10 : rdT cSba 10 = true := by kernel_rfl
theorem tSba_6 : rdT cSba 6 = true := by kernel_rfl
theorem tTa_10 : rdT cTa 10 = true := by kernel_rfl
theorem tTa_4 : rdT cTa 4 = true := by kernel_rfl
end Go.Proofs.YtaecedlhiclkdaaGreat.En
