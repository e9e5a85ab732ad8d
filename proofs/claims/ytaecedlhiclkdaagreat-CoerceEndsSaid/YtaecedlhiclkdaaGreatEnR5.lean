/- CoerceEnds: rounds. No condition. -/
import Derived.Test.YtaecedlhiclkdaaGreatEnS
namespace Go.Proofs.YtaecedlhiclkdaaGreat.En
open Go Vx Con
set_option linter.unusedVariables false
set_option linter.constructorNameAsVariable false
set_option maxRecDepth 100000
theorem fLaa : fstC cLaa = true := by kernel_rfl
theorem fPa1 : fstC cPa1 = true := by kernel_rfl
theorem fSab : fstC cSab = true := by kernel_rfl
theorem lPa0_3 : rdL cPa0 3 = true := by kernel_rfl
theorem lPa2_7 : rdL cPa2 7 = true := by kernel_rfl
theorem lSaa_3 : rdL cSaa 3 = true := by kernel_rfl
theorem lSaa_55 : rdL cSaa 55 = true := by kernel_rfl
theorem lSaa_65 : rdL cSaa 65 = true := by kernel_rfl
theorem lSaa_9 : rdL cSaa 9 = true := by kernel_rfl
theorem pAaa_55 : rdP cAaa 55 = true := by kernel_rfl
theorem pKa_0 : rdP cKa 0 = true := by kernel_rfl
theorem pKa_11 : rdP cKa 11 = true := by kernel_rfl
theorem pPa0_7 : rdP cPa0 7 = true := by kernel_rfl
theorem tAaa_30 : rdT cAaa 30 = true := by kernel_rfl
theorem tAaa_36 : rdT cAaa 36 = true := by kernel_rfl
theorem tAaa_4 : rdT cAaa 4 = true := by kernel_rfl
theorem tAaa_52 : rdT cAaa 52 = true := by kernel_rfl
theorem tAaa_66 : rdT cAaa 66 = true := by kernel_rfl
theorem tAaa_8 : rdT cAaa 8 = true := by kernel_rfl
theorem tAab_13 : rdT cAab 13 = true := by kernel_rfl
theorem tKa_14 : rdT cKa 14 = true := by kernel_rfl
theorem tKa_16 : rdT cKa 16 = true := by kernel_rfl
theorem tKa_8 : rdT cKa 8 = true := by kernel_rfl
theorem tPa1_6 : rdT cPa1 6 = true := by kernel_rfl
theorem tPa2_13 : rdT cPa2 13 = true := by kernel_rfl
theorem tPa2_15 : rdT cPa2 15 = true := by kernel_rfl
theorem tPa2_2 : rdT cPa2 2 = true := by kernel_rfl
theorem tPb1_0 : rdT cPb1 0 = true := by kernel_rfl
theorem tSaa_16 : rdT cSaa 16 = true := by kernel_rfl
theorem tSaa_24 : rdT cSaa 24 = true := by kernel_rfl
theorem tSaa_40 : rdT cSaa 40 = true := by kernel_rfl
theorem tSaa_79 : rdT cSaa 79 = true := by kernel_rfl
theorem tSba_14 : rdT cSba 14 = true := by kernel_rfl
theorem tSba_2 : rdT cSba 2 = true := by kernel_rfl
theorem zPb1 : nilC cPb1 = true := by kernel_rfl
theorem zSba : nilC cSba = true := by kernel_rfl
end Go.Proofs.YtaecedlhiclkdaaGreat.En
