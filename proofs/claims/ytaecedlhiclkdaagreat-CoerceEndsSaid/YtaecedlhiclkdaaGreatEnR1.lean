/- CoerceEnds: rounds. No condition. -/
import Derived.Test.YtaecedlhiclkdaaGreatEnS
namespace Go.Proofs.YtaecedlhiclkdaaGreat.En
open Go Vx Con
set_option linter.unusedVariables false
set_option linter.constructorNameAsVariable false
set_option maxRecDepth 100000
theorem badW5 : badK 5 [(mA 3, true), (mA 7, false)] = true := by kernel_rfl
theorem fNb : fstC cNb = true := by kernel_rfl
theorem lAaa_0 : rdL cAaa 0 = true := by kernel_rfl
theorem lKa_0 : rdL cKa 0 = true := by kernel_rfl
theorem lSaa_51 : rdL cSaa 51 = true := by kernel_rfl
theorem lSba_9 : rdL cSba 9 = true := by kernel_rfl
theorem lTa_3 : rdL cTa 3 = true := by kernel_rfl
theorem lTa_9 : rdL cTa 9 = true := by kernel_rfl
theorem pAaa_15 : rdP cAaa 15 = true := by kernel_rfl
theorem pAaa_33 : rdP cAaa 33 = true := by kernel_rfl
theorem pAaa_35 : rdP cAaa 35 = true := by kernel_rfl
theorem pAaa_75 : rdP cAaa 75 = true := by kernel_rfl
theorem pAba_9 : rdP cAba 9 = true := by kernel_rfl
theorem pKa_3 : rdP cKa 3 = true := by kernel_rfl
theorem pPa1_11 : rdP cPa1 11 = true := by kernel_rfl
theorem pSaa_25 : rdP cSaa 25 = true := by kernel_rfl
theorem pSaa_5 : rdP cSaa 5 = true := by kernel_rfl
theorem pSaa_7 : rdP cSaa 7 = true := by kernel_rfl
theorem pSab_7 : rdP cSab 7 = true := by kernel_rfl
theorem pSba_3 : rdP cSba 3 = true := by kernel_rfl
theorem tAaa_22 : rdT cAaa 22 = true := by kernel_rfl
theorem tAaa_26 : rdT cAaa 26 = true := by kernel_rfl
theorem tAaa_48 : rdT cAaa 48 = true := by kernel_rfl
theorem tAaa_78 : rdT cAaa 78 = true := by kernel_rfl
theorem tAba_6 : rdT cAba 6 = true := by kernel_rfl
theorem tAba_8 : rdT cAba 8 = true := by kernel_rfl
theorem tLba_10 : rdT cLba 10 = true := by kernel_rfl
theorem tLba_4 : rdT cLba 4 = true := by kernel_rfl
theorem tPa0_13 : rdT cPa0 13 = true := by kernel_rfl
theorem tPa1_14 : rdT cPa1 14 = true := by kernel_rfl
theorem tPa1_8 : rdT cPa1 8 = true := by kernel_rfl
theorem tSaa_2 : rdT cSaa 2 = true := by kernel_rfl
theorem tSaa_36 : rdT cSaa 36 = true := by kernel_rfl
theorem tSba_5 : rdT cSba 5 = true := by kernel_rfl
theorem zKa : nilC cKa = true := by kernel_rfl
end Go.Proofs.YtaecedlhiclkdaaGreat.En
