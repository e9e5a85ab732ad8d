/- CoerceEnds: rounds. No condition. -/
import Derived.Test.YtaecedlhiclkdaaGreatEnS
namespace Go.Proofs.YtaecedlhiclkdaaGreat.En
open Go Vx Con
set_option linter.unusedVariables false
set_option linter.constructorNameAsVariable false
set_option maxRecDepth 100000
theorem fPa2 : fstC cPa2 = true := by kernel_rfl
theorem fSba : fstC cSba = true := by kernel_rfl
theorem fSbb : fstC cSbb = true := by kernel_rfl
theorem lAaa_1 : rdL cAaa 1 = true := by kernel_rfl
theorem lAaa_5 : rdL cAaa 5 = true := by kernel_rfl
theorem lAaa_9 : rdL cAaa 9 = true := by kernel_rfl
theorem lKa_3 : rdL cKa 3 = true := by kernel_rfl
theorem lKa_9 : rdL cKa 9 = true := by kernel_rfl
theorem lNa_1 : rdL cNa 1 = true := by kernel_rfl
theorem lSaa_17 : rdL cSaa 17 = true := by kernel_rfl
theorem lSaa_25 : rdL cSaa 25 = true := by kernel_rfl
theorem lSaa_41 : rdL cSaa 41 = true := by kernel_rfl
theorem pAaa_3 : rdP cAaa 3 = true := by kernel_rfl
theorem pAaa_57 : rdP cAaa 57 = true := by kernel_rfl
theorem pLab_11 : rdP cLab 11 = true := by kernel_rfl
theorem pLab_3 : rdP cLab 3 = true := by kernel_rfl
theorem pPa0_9 : rdP cPa0 9 = true := by kernel_rfl
theorem pPa2_0 : rdP cPa2 0 = true := by kernel_rfl
theorem pSba_7 : rdP cSba 7 = true := by kernel_rfl
theorem tAaa_31 : rdT cAaa 31 = true := by kernel_rfl
theorem tAaa_37 : rdT cAaa 37 = true := by kernel_rfl
theorem tAaa_53 : rdT cAaa 53 = true := by kernel_rfl
theorem tAaa_67 : rdT cAaa 67 = true := by kernel_rfl
theorem tAab_14 : rdT cAab 14 = true := by kernel_rfl
theorem tPa0_4 : rdT cPa0 4 = true := by kernel_rfl
theorem tPa2_14 : rdT cPa2 14 = true := by kernel_rfl
theorem tPa2_16 : rdT cPa2 16 = true := by kernel_rfl
theorem tPa2_8 : rdT cPa2 8 = true := by kernel_rfl
theorem tPb2_0 : rdT cPb2 0 = true := by kernel_rfl
theorem tSaa_10 : rdT cSaa 10 = true := by kernel_rfl
theorem tSaa_4 : rdT cSaa 4 = true := by kernel_rfl
theorem tSaa_56 : rdT cSaa 56 = true := by kernel_rfl
theorem tSaa_66 : rdT cSaa 66 = true := by kernel_rfl
theorem tSaa_80 : rdT cSaa 80 = true := by kernel_rfl
theorem zLab : nilC cLab = true := by kernel_rfl
theorem zPb2 : nilC cPb2 = true := by kernel_rfl
end Go.Proofs.YtaecedlhiclkdaaGreat.En
