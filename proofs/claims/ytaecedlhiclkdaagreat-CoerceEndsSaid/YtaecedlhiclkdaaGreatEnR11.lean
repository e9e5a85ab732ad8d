/- CoerceEnds: rounds. No condition. -/
import Derived.Test.YtaecedlhiclkdaaGreatEnS
namespace Go.Proofs.YtaecedlhiclkdaaGreat.En
open Go Vx Con
set_option linter.unusedVariables false
set_option linter.constructorNameAsVariable false
set_option maxRecDepth 100000
theorem fLba : fstC cLba = true := by kernel_rfl
theorem fPb1 : fstC cPb1 = true := by kernel_rfl
theorem lAab_7 : rdL cAab 7 = true := by kernel_rfl
theorem lLab_3 : rdL cLab 3 = true := by kernel_rfl
theorem lLab_9 : rdL cLab 9 = true := by kernel_rfl
theorem lSaa_71 : rdL cSaa 71 = true := by kernel_rfl
theorem pAaa_7 : rdP cAaa 7 = true := by kernel_rfl
theorem pAab_7 : rdP cAab 7 = true := by kernel_rfl
theorem pLba_3 : rdP cLba 3 = true := by kernel_rfl
theorem pNa_0 : rdP cNa 0 = true := by kernel_rfl
theorem pPa1_9 : rdP cPa1 9 = true := by kernel_rfl
theorem pSaa_21 : rdP cSaa 21 = true := by kernel_rfl
theorem tAaa_16 : rdT cAaa 16 = true := by kernel_rfl
theorem tAaa_42 : rdT cAaa 42 = true := by kernel_rfl
theorem tAaa_58 : rdT cAaa 58 = true := by kernel_rfl
theorem tAaa_72 : rdT cAaa 72 = true := by kernel_rfl
theorem tAaa_76 : rdT cAaa 76 = true := by kernel_rfl
theorem tAaa_80 : rdT cAaa 80 = true := by kernel_rfl
theorem tAab_5 : rdT cAab 5 = true := by kernel_rfl
theorem tAba_14 : rdT cAba 14 = true := by kernel_rfl
theorem tAba_2 : rdT cAba 2 = true := by kernel_rfl
theorem tKa_2 : rdT cKa 2 = true := by kernel_rfl
theorem tLaa_0 : rdT cLaa 0 = true := by kernel_rfl
theorem tNa_14 : rdT cNa 14 = true := by kernel_rfl
theorem tNa_16 : rdT cNa 16 = true := by kernel_rfl
theorem tNa_8 : rdT cNa 8 = true := by kernel_rfl
theorem tPa1_4 : rdT cPa1 4 = true := by kernel_rfl
theorem tSaa_22 : rdT cSaa 22 = true := by kernel_rfl
theorem tSaa_30 : rdT cSaa 30 = true := by kernel_rfl
theorem tSaa_46 : rdT cSaa 46 = true := by kernel_rfl
theorem tSaa_61 : rdT cSaa 61 = true := by kernel_rfl
theorem tSab_4 : rdT cSab 4 = true := by kernel_rfl
theorem tSab_8 : rdT cSab 8 = true := by kernel_rfl
theorem zLaa : nilC cLaa = true := by kernel_rfl
theorem zLba : nilC cLba = true := by kernel_rfl
end Go.Proofs.YtaecedlhiclkdaaGreat.En
