/- CoerceEnds: rounds. No condition. -/
import Derived.Test.YtaecedlhiclkdaaGreatEnS
namespace Go.Proofs.YtaecedlhiclkdaaGreat.En
open Go Vx Con
set_option linter.unusedVariables false
set_option linter.constructorNameAsVariable false
set_option maxRecDepth 100000
theorem fLab : fstC cLab = true := by kernel_rfl
theorem fPb0 : fstC cPb0 = true := by kernel_rfl
theorem lAaa_15 : rdL cAaa 15 = true := by kernel_rfl
theorem lAaa_41 : rdL cAaa 41 = true := by kernel_rfl
theorem lAaa_57 : rdL cAaa 57 = true := by kernel_rfl
theorem lAaa_71 : rdL cAaa 71 = true := by kernel_rfl
theorem lAaa_75 : rdL cAaa 75 = true := by kernel_rfl
theorem lAba_1 : rdL cAba 1 = true := by kernel_rfl
theorem lKa_1 : rdL cKa 1 = true := by kernel_rfl
theorem lNa_7 : rdL cNa 7 = true := by kernel_rfl
theorem lPa1_3 : rdL cPa1 3 = true := by kernel_rfl
theorem lSaa_21 : rdL cSaa 21 = true := by kernel_rfl
theorem lSaa_29 : rdL cSaa 29 = true := by kernel_rfl
theorem lSab_3 : rdL cSab 3 = true := by kernel_rfl
theorem lSab_7 : rdL cSab 7 = true := by kernel_rfl
theorem pAab_1 : rdP cAab 1 = true := by kernel_rfl
theorem pLab_0 : rdP cLab 0 = true := by kernel_rfl
theorem pPa1_7 : rdP cPa1 7 = true := by kernel_rfl
theorem pSaa_17 : rdP cSaa 17 = true := by kernel_rfl
theorem tAaa_79 : rdT cAaa 79 = true := by kernel_rfl
theorem tAab_4 : rdT cAab 4 = true := by kernel_rfl
theorem tAba_13 : rdT cAba 13 = true := by kernel_rfl
theorem tLab_14 : rdT cLab 14 = true := by kernel_rfl
theorem tLab_16 : rdT cLab 16 = true := by kernel_rfl
theorem tLab_8 : rdT cLab 8 = true := by kernel_rfl
theorem tLbb_0 : rdT cLbb 0 = true := by kernel_rfl
theorem tNa_13 : rdT cNa 13 = true := by kernel_rfl
theorem tNa_15 : rdT cNa 15 = true := by kernel_rfl
theorem tPa2_6 : rdT cPa2 6 = true := by kernel_rfl
theorem tSaa_45 : rdT cSaa 45 = true := by kernel_rfl
theorem tSaa_60 : rdT cSaa 60 = true := by kernel_rfl
theorem tSaa_70 : rdT cSaa 70 = true := by kernel_rfl
theorem zAaa : nilC cAaa = true := by kernel_rfl
theorem zAab : nilC cAab = true := by kernel_rfl
theorem zLbb : nilC cLbb = true := by kernel_rfl
end Go.Proofs.YtaecedlhiclkdaaGreat.En
