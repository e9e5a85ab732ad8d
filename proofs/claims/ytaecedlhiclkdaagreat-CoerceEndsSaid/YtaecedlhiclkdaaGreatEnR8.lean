/- CoerceEnds: rounds. No condition. -/
import Derived.Test.YtaecedlhiclkdaaGreatEnS
namespace Go.Proofs.YtaecedlhiclkdaaGreat.En
open Go Vx Con
set_option linter.unusedVariables false
set_option linter.constructorNameAsVariable false
set_option maxRecDepth 100000
theorem fAab : fstC cAab = true := by kernel_rfl
theorem fTa : fstC cTa = true := by kernel_rfl
theorem lAaa_11 : rdL cAaa 11 = true := by kernel_rfl
theorem lAaa_13 : rdL cAaa 13 = true := by kernel_rfl
theorem lAaa_33 : rdL cAaa 33 = true := by kernel_rfl
theorem lAaa_39 : rdL cAaa 39 = true := by kernel_rfl
theorem lAaa_55 : rdL cAaa 55 = true := by kernel_rfl
theorem lAaa_69 : rdL cAaa 69 = true := by kernel_rfl
theorem lAab_1 : rdL cAab 1 = true := by kernel_rfl
theorem lAba_11 : rdL cAba 11 = true := by kernel_rfl
theorem lNa_11 : rdL cNa 11 = true := by kernel_rfl
theorem lSaa_27 : rdL cSaa 27 = true := by kernel_rfl
theorem lSaa_43 : rdL cSaa 43 = true := by kernel_rfl
theorem lTa_1 : rdL cTa 1 = true := by kernel_rfl
theorem pAaa_69 : rdP cAaa 69 = true := by kernel_rfl
theorem pAab_0 : rdP cAab 0 = true := by kernel_rfl
theorem pLab_1 : rdP cLab 1 = true := by kernel_rfl
theorem pLab_9 : rdP cLab 9 = true := by kernel_rfl
theorem pNa_7 : rdP cNa 7 = true := by kernel_rfl
theorem pSaa_13 : rdP cSaa 13 = true := by kernel_rfl
theorem tAaa_73 : rdT cAaa 73 = true := by kernel_rfl
theorem tKa_5 : rdT cKa 5 = true := by kernel_rfl
theorem tLab_12 : rdT cLab 12 = true := by kernel_rfl
theorem tPa0_16 : rdT cPa0 16 = true := by kernel_rfl
theorem tPa0_6 : rdT cPa0 6 = true := by kernel_rfl
theorem tPa2_10 : rdT cPa2 10 = true := by kernel_rfl
theorem tPa2_4 : rdT cPa2 4 = true := by kernel_rfl
theorem tSaa_12 : rdT cSaa 12 = true := by kernel_rfl
theorem tSaa_19 : rdT cSaa 19 = true := by kernel_rfl
theorem tSaa_58 : rdT cSaa 58 = true := by kernel_rfl
theorem tSaa_6 : rdT cSaa 6 = true := by kernel_rfl
theorem tSaa_68 : rdT cSaa 68 = true := by kernel_rfl
theorem tSba_15 : rdT cSba 15 = true := by kernel_rfl
theorem tTb_0 : rdT cTb 0 = true := by kernel_rfl
theorem zTb : nilC cTb = true := by kernel_rfl
end Go.Proofs.YtaecedlhiclkdaaGreat.En
