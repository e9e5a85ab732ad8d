/- CoerceEnds: rounds. No condition. -/
import Derived.Test.YtaecedlhiclkdaaGreatEnS
namespace Go.Proofs.YtaecedlhiclkdaaGreat.En
open Go Vx Con
set_option linter.unusedVariables false
set_option linter.constructorNameAsVariable false
set_option maxRecDepth 100000
theorem fAaa : fstC cAaa = true := by kernel_rfl
theorem fAbb : fstC cAbb = true := by kernel_rfl
theorem fNa : fstC cNa = true := by kernel_rfl
theorem lLab_11 : rdL cLab 11 = true := by kernel_rfl
theorem lPa2_3 : rdL cPa2 3 = true := by kernel_rfl
theorem lPa2_9 : rdL cPa2 9 = true := by kernel_rfl
theorem lSaa_11 : rdL cSaa 11 = true := by kernel_rfl
theorem lSaa_5 : rdL cSaa 5 = true := by kernel_rfl
theorem lSaa_57 : rdL cSaa 57 = true := by kernel_rfl
theorem pAaa_5 : rdP cAaa 5 = true := by kernel_rfl
theorem pAaa_59 : rdP cAaa 59 = true := by kernel_rfl
theorem pAaa_65 : rdP cAaa 65 = true := by kernel_rfl
theorem pAba_3 : rdP cAba 3 = true := by kernel_rfl
theorem pLab_7 : rdP cLab 7 = true := by kernel_rfl
theorem pLba_11 : rdP cLba 11 = true := by kernel_rfl
theorem pNa_3 : rdP cNa 3 = true := by kernel_rfl
theorem pSba_9 : rdP cSba 9 = true := by kernel_rfl
theorem tAaa_10 : rdT cAaa 10 = true := by kernel_rfl
theorem tAaa_2 : rdT cAaa 2 = true := by kernel_rfl
theorem tAaa_32 : rdT cAaa 32 = true := by kernel_rfl
theorem tAaa_38 : rdT cAaa 38 = true := by kernel_rfl
theorem tAaa_54 : rdT cAaa 54 = true := by kernel_rfl
theorem tAaa_6 : rdT cAaa 6 = true := by kernel_rfl
theorem tAaa_68 : rdT cAaa 68 = true := by kernel_rfl
theorem tKa_10 : rdT cKa 10 = true := by kernel_rfl
theorem tKa_4 : rdT cKa 4 = true := by kernel_rfl
theorem tNa_2 : rdT cNa 2 = true := by kernel_rfl
theorem tNb_0 : rdT cNb 0 = true := by kernel_rfl
theorem tPa0_15 : rdT cPa0 15 = true := by kernel_rfl
theorem tPa0_5 : rdT cPa0 5 = true := by kernel_rfl
theorem tSaa_18 : rdT cSaa 18 = true := by kernel_rfl
theorem tSaa_26 : rdT cSaa 26 = true := by kernel_rfl
theorem tSaa_42 : rdT cSaa 42 = true := by kernel_rfl
theorem tSaa_67 : rdT cSaa 67 = true := by kernel_rfl
theorem zNa : nilC cNa = true := by kernel_rfl
theorem zNb : nilC cNb = true := by kernel_rfl
end Go.Proofs.YtaecedlhiclkdaaGreat.En
