/- CoerceLike: what is taken by contract, and the runs. No condition. -/
import Derived.Test.YtdplmegbnceijaaGreatCon
import Derived.Test.YtdplmegbnceijaaGreatRead
namespace Go.Proofs.YtdplmegbnceijaaGreat.Lk
open Go Vx Con
set_option linter.unusedVariables false
set_option linter.constructorNameAsVariable false
set_option maxRecDepth 100000

noncomputable def SL : Specs := fun g => match g with
  | 141 => some (orC readC (runC c0 141))
  | g => S2 g
theorem SL_ok : SpecOK P SL := by
  intro g C hC
  unfold SL at hC
  split at hC
  · cases hC; exact orC_ok (readC_ok Read.read) (runC_ok c0_ok 141)
  · exact S2_ok _ C hC
noncomputable def G (i j : Nat) : Bool := setF (formFs i 1 ++ formFs j 2) (startH [] 1) (fun h => run SL 40 3 [formAV i 1, formAV j 2] h 3 (fun v h _ => finT v h))
def kindsV : List TypeDesc := [.int .u8, .float .f64, .string, .int .i64]
noncomputable def B (fs : Facts) : Bool := setF fs (startH [] 1) (fun h => run SL 40 3 [.ag (leafAVs kindsV 1), .ag (leafAVs kindsV 5)] h 9 (fun v h _ => finT v h))
noncomputable def m1 : SE := .fn 10 (packV (.sy 1) (.sy 2) (.sy 3) (.sy 4))
noncomputable def m2 : SE := .fn 10 (packV (.sy 5) (.sy 6) (.sy 7) (.sy 8))
end Go.Proofs.YtdplmegbnceijaaGreat.Lk
