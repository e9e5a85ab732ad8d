/- CoerceEnds: rounds. No condition. -/
import Derived.Test.YtaecedlhiclkdaaGreatEnS
namespace Go.Proofs.YtaecedlhiclkdaaGreat.En
open Go Vx Con
set_option linter.unusedVariables false
set_option linter.constructorNameAsVariable false
set_option maxRecDepth 100000
theorem fAba : fstC cAba = true := by kernel_rfl
theorem fKa : fstC cKa = true := by kernel_rfl
theorem lAab_3 : rdL cAab 3 = true := by kernel_rfl
theorem lLab_7 : rdL cLab 7 = true := by kernel_rfl
theorem lSaa_59 : rdL cSaa 59 = true := by kernel_rfl
theorem lSaa_69 : rdL cSaa 69 = true := by kernel_rfl
theorem pAaa_71 : rdP cAaa 71 = true := by kernel_rfl
theorem pNa_1 : rdP cNa 1 = true := by kernel_rfl
theorem pNa_9 : rdP cNa 9 = true := by kernel_rfl
theorem pPa1_0 : rdP cPa1 0 = true := by kernel_rfl
theorem pSaa_15 : rdP cSaa 15 = true := by kernel_rfl
theorem pSab_0 : rdP cSab 0 = true := by kernel_rfl
theorem pSab_1 : rdP cSab 1 = true := by kernel_rfl
theorem tAaa_12 : rdT cAaa 12 = true := by kernel_rfl
theorem tAaa_14 : rdT cAaa 14 = true := by kernel_rfl
theorem tAaa_34 : rdT cAaa 34 = true := by kernel_rfl
theorem tAaa_40 : rdT cAaa 40 = true := by kernel_rfl
theorem tAaa_56 : rdT cAaa 56 = true := by kernel_rfl
theorem tAaa_70 : rdT cAaa 70 = true := by kernel_rfl
theorem tAaa_74 : rdT cAaa 74 = true := by kernel_rfl
theorem tAab_2 : rdT cAab 2 = true := by kernel_rfl
theorem tAba_12 : rdT cAba 12 = true := by kernel_rfl
theorem tKa_6 : rdT cKa 6 = true := by kernel_rfl
theorem tKb_0 : rdT cKb 0 = true := by kernel_rfl
theorem tLab_13 : rdT cLab 13 = true := by kernel_rfl
theorem tLab_15 : rdT cLab 15 = true := by kernel_rfl
theorem tNa_12 : rdT cNa 12 = true := by kernel_rfl
theorem tPa2_5 : rdT cPa2 5 = true := by kernel_rfl
theorem tSaa_20 : rdT cSaa 20 = true := by kernel_rfl
theorem tSaa_28 : rdT cSaa 28 = true := by kernel_rfl
theorem tSaa_44 : rdT cSaa 44 = true := by kernel_rfl
theorem tSba_16 : rdT cSba 16 = true := by kernel_rfl
theorem tTa_2 : rdT cTa 2 = true := by kernel_rfl
theorem zKb : nilC cKb = true := by kernel_rfl
theorem zPa1 : nilC cPa1 = true := by kernel_rfl
end Go.Proofs.YtaecedlhiclkdaaGreat.En
