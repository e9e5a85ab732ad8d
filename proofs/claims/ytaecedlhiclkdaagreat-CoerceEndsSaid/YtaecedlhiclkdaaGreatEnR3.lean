/- CoerceEnds: rounds. No condition. -/
import Derived.Test.YtaecedlhiclkdaaGreatEnS
namespace Go.Proofs.YtaecedlhiclkdaaGreat.En
open Go Vx Con
set_option linter.unusedVariables false
set_option linter.constructorNameAsVariable false
set_option maxRecDepth 100000
theorem badW7 : badK 7 [(mA 3, true), (mA 7, false)] = true := by kernel_rfl
theorem fKb : fstC cKb = true := by kernel_rfl
theorem lAab_11 : rdL cAab 11 = true := by kernel_rfl
theorem lAba_0 : rdL cAba 0 = true := by kernel_rfl
theorem lPa2_11 : rdL cPa2 11 = true := by kernel_rfl
theorem lSaa_7 : rdL cSaa 7 = true := by kernel_rfl
theorem pAaa_0 : rdP cAaa 0 = true := by kernel_rfl
theorem pAaa_1 : rdP cAaa 1 = true := by kernel_rfl
theorem pAaa_21 : rdP cAaa 21 = true := by kernel_rfl
theorem pAba_11 : rdP cAba 11 = true := by kernel_rfl
theorem pKa_1 : rdP cKa 1 = true := by kernel_rfl
theorem pKa_9 : rdP cKa 9 = true := by kernel_rfl
theorem pNa_11 : rdP cNa 11 = true := by kernel_rfl
theorem pPa1_3 : rdP cPa1 3 = true := by kernel_rfl
theorem pSaa_11 : rdP cSaa 11 = true := by kernel_rfl
theorem pSaa_69 : rdP cSaa 69 = true := by kernel_rfl
theorem tAaa_28 : rdT cAaa 28 = true := by kernel_rfl
theorem tAaa_50 : rdT cAaa 50 = true := by kernel_rfl
theorem tAaa_64 : rdT cAaa 64 = true := by kernel_rfl
theorem tAba_10 : rdT cAba 10 = true := by kernel_rfl
theorem tAba_16 : rdT cAba 16 = true := by kernel_rfl
theorem tKa_12 : rdT cKa 12 = true := by kernel_rfl
theorem tLba_6 : rdT cLba 6 = true := by kernel_rfl
theorem tPa0_2 : rdT cPa0 2 = true := by kernel_rfl
theorem tPa1_10 : rdT cPa1 10 = true := by kernel_rfl
theorem tPa1_2 : rdT cPa1 2 = true := by kernel_rfl
theorem tSaa_14 : rdT cSaa 14 = true := by kernel_rfl
theorem tSaa_38 : rdT cSaa 38 = true := by kernel_rfl
theorem tSaa_53 : rdT cSaa 53 = true := by kernel_rfl
theorem tSaa_63 : rdT cSaa 63 = true := by kernel_rfl
theorem tSaa_78 : rdT cSaa 78 = true := by kernel_rfl
theorem tSab_15 : rdT cSab 15 = true := by kernel_rfl
theorem tSab_2 : rdT cSab 2 = true := by kernel_rfl
theorem tSba_12 : rdT cSba 12 = true := by kernel_rfl
theorem tTa_5 : rdT cTa 5 = true := by kernel_rfl
end Go.Proofs.YtaecedlhiclkdaaGreat.En
