/- A descriptor's check, run for each of its bits. No condition. -/
import Derived.Test.YtdplmegbnceijaaCon
import Derived.Test.YtdplmegbnceijaaVxZh
namespace Go.Proofs.Ytdplmegbnceijaa.Of
open Go Vx Con
set_option linter.unusedVariables false
set_option linter.constructorNameAsVariable false
set_option maxRecDepth 100000

theorem d7_64 : D c2 7 64 = true := by kernel_rfl
theorem d7_65 : D c2 7 65 = true := by kernel_rfl
theorem d7_66 : D c2 7 66 = true := by kernel_rfl
theorem d7_67 : D c2 7 67 = true := by kernel_rfl
theorem d7_68 : D c2 7 68 = true := by kernel_rfl
theorem d7_69 : D c2 7 69 = true := by kernel_rfl
theorem d7_70 : D c2 7 70 = true := by kernel_rfl
theorem d7_71 : D c2 7 71 = true := by kernel_rfl
theorem d7_72 : D c2 7 72 = true := by kernel_rfl
theorem d7_73 : D c2 7 73 = true := by kernel_rfl
theorem d7_74 : D c2 7 74 = true := by kernel_rfl
theorem d7_75 : D c2 7 75 = true := by kernel_rfl
theorem d7_76 : D c2 7 76 = true := by kernel_rfl
theorem d7_77 : D c2 7 77 = true := by kernel_rfl
theorem d7_78 : D c2 7 78 = true := by kernel_rfl
theorem d7_79 : D c2 7 79 = true := by kernel_rfl
theorem d7_80 : D c2 7 80 = true := by kernel_rfl
theorem d7_81 : D c2 7 81 = true := by kernel_rfl
theorem d7_82 : D c2 7 82 = true := by kernel_rfl
theorem d7_83 : D c2 7 83 = true := by kernel_rfl
theorem d7_84 : D c2 7 84 = true := by kernel_rfl
theorem d7_85 : D c2 7 85 = true := by kernel_rfl
theorem d7_86 : D c2 7 86 = true := by kernel_rfl
theorem d7_87 : D c2 7 87 = true := by kernel_rfl
theorem d7_88 : D c2 7 88 = true := by kernel_rfl
theorem d7_89 : D c2 7 89 = true := by kernel_rfl
theorem d7_90 : D c2 7 90 = true := by kernel_rfl
theorem d7_91 : D c2 7 91 = true := by kernel_rfl
theorem d7_92 : D c2 7 92 = true := by kernel_rfl
theorem d7_93 : D c2 7 93 = true := by kernel_rfl
theorem d7_94 : D c2 7 94 = true := by kernel_rfl
theorem d7_95 : D c2 7 95 = true := by kernel_rfl
theorem d7_96 : D c2 7 96 = true := by kernel_rfl
theorem d7_97 : D c2 7 97 = true := by kernel_rfl
theorem d7_98 : D c2 7 98 = true := by kernel_rfl
theorem d7_99 : D c2 7 99 = true := by kernel_rfl
theorem d7_100 : D c2 7 100 = true := by kernel_rfl
theorem d7_101 : D c2 7 101 = true := by kernel_rfl
theorem d7_102 : D c2 7 102 = true := by kernel_rfl
theorem d7_103 : D c2 7 103 = true := by kernel_rfl
theorem d7_104 : D c2 7 104 = true := by kernel_rfl
theorem d7_105 : D c2 7 105 = true := by kernel_rfl
theorem d7_106 : D c2 7 106 = true := by kernel_rfl
theorem d7_107 : D c2 7 107 = true := by kernel_rfl
theorem d7_108 : D c2 7 108 = true := by kernel_rfl
theorem d7_109 : D c2 7 109 = true := by kernel_rfl
theorem d7_110 : D c2 7 110 = true := by kernel_rfl
theorem d7_111 : D c2 7 111 = true := by kernel_rfl
theorem a7_4 : AllFrom (fun c => D c2 7 c = true) 64 48 := ⟨d7_64, d7_65, d7_66, d7_67, d7_68, d7_69, d7_70, d7_71, d7_72, d7_73, d7_74, d7_75, d7_76, d7_77, d7_78, d7_79, d7_80, d7_81, d7_82, d7_83, d7_84, d7_85, d7_86, d7_87, d7_88, d7_89, d7_90, d7_91, d7_92, d7_93, d7_94, d7_95, d7_96, d7_97, d7_98, d7_99, d7_100, d7_101, d7_102, d7_103, d7_104, d7_105, d7_106, d7_107, d7_108, d7_109, d7_110, d7_111, trivial⟩
theorem d9_64 : D c2 9 64 = true := by kernel_rfl
theorem d9_65 : D c2 9 65 = true := by kernel_rfl
theorem d9_66 : D c2 9 66 = true := by kernel_rfl
theorem d9_67 : D c2 9 67 = true := by kernel_rfl
theorem d9_68 : D c2 9 68 = true := by kernel_rfl
theorem d9_69 : D c2 9 69 = true := by kernel_rfl
theorem d9_70 : D c2 9 70 = true := by kernel_rfl
theorem d9_71 : D c2 9 71 = true := by kernel_rfl
theorem d9_72 : D c2 9 72 = true := by kernel_rfl
theorem d9_73 : D c2 9 73 = true := by kernel_rfl
theorem d9_74 : D c2 9 74 = true := by kernel_rfl
theorem d9_75 : D c2 9 75 = true := by kernel_rfl
theorem d9_76 : D c2 9 76 = true := by kernel_rfl
theorem d9_77 : D c2 9 77 = true := by kernel_rfl
theorem d9_78 : D c2 9 78 = true := by kernel_rfl
theorem d9_79 : D c2 9 79 = true := by kernel_rfl
theorem d9_80 : D c2 9 80 = true := by kernel_rfl
theorem d9_81 : D c2 9 81 = true := by kernel_rfl
theorem d9_82 : D c2 9 82 = true := by kernel_rfl
theorem d9_83 : D c2 9 83 = true := by kernel_rfl
theorem d9_84 : D c2 9 84 = true := by kernel_rfl
theorem d9_85 : D c2 9 85 = true := by kernel_rfl
theorem d9_86 : D c2 9 86 = true := by kernel_rfl
theorem d9_87 : D c2 9 87 = true := by kernel_rfl
theorem d9_88 : D c2 9 88 = true := by kernel_rfl
theorem d9_89 : D c2 9 89 = true := by kernel_rfl
theorem d9_90 : D c2 9 90 = true := by kernel_rfl
theorem d9_91 : D c2 9 91 = true := by kernel_rfl
theorem d9_92 : D c2 9 92 = true := by kernel_rfl
theorem d9_93 : D c2 9 93 = true := by kernel_rfl
theorem d9_94 : D c2 9 94 = true := by kernel_rfl
theorem d9_95 : D c2 9 95 = true := by kernel_rfl
theorem d9_96 : D c2 9 96 = true := by kernel_rfl
theorem d9_97 : D c2 9 97 = true := by kernel_rfl
theorem d9_98 : D c2 9 98 = true := by kernel_rfl
theorem d9_99 : D c2 9 99 = true := by kernel_rfl
theorem d9_100 : D c2 9 100 = true := by kernel_rfl
theorem d9_101 : D c2 9 101 = true := by kernel_rfl
theorem d9_102 : D c2 9 102 = true := by kernel_rfl
theorem d9_103 : D c2 9 103 = true := by kernel_rfl
theorem d9_104 : D c2 9 104 = true := by kernel_rfl
theorem d9_105 : D c2 9 105 = true := by kernel_rfl
theorem d9_106 : D c2 9 106 = true := by kernel_rfl
theorem d9_107 : D c2 9 107 = true := by kernel_rfl
theorem d9_108 : D c2 9 108 = true := by kernel_rfl
theorem d9_109 : D c2 9 109 = true := by kernel_rfl
theorem d9_110 : D c2 9 110 = true := by kernel_rfl
theorem d9_111 : D c2 9 111 = true := by kernel_rfl
theorem a9_4 : AllFrom (fun c => D c2 9 c = true) 64 48 := ⟨d9_64, d9_65, d9_66, d9_67, d9_68, d9_69, d9_70, d9_71, d9_72, d9_73, d9_74, d9_75, d9_76, d9_77, d9_78, d9_79, d9_80, d9_81, d9_82, d9_83, d9_84, d9_85, d9_86, d9_87, d9_88, d9_89, d9_90, d9_91, d9_92, d9_93, d9_94, d9_95, d9_96, d9_97, d9_98, d9_99, d9_100, d9_101, d9_102, d9_103, d9_104, d9_105, d9_106, d9_107, d9_108, d9_109, d9_110, d9_111, trivial⟩
end Go.Proofs.Ytdplmegbnceijaa.Of
