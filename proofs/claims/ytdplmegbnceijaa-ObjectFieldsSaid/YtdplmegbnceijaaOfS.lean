/- A descriptor's check as a contract. No condition. -/
import Derived.Test.YtdplmegbnceijaaOfC0
import Derived.Test.YtdplmegbnceijaaOfC1
import Derived.Test.YtdplmegbnceijaaOfC2
import Derived.Test.YtdplmegbnceijaaOfC3
import Derived.Test.YtdplmegbnceijaaOfC4
import Derived.Test.YtdplmegbnceijaaOfC5
import Derived.Test.YtdplmegbnceijaaOfC6
import Derived.Test.YtdplmegbnceijaaOfC7
namespace Go.Proofs.Ytdplmegbnceijaa.Of
open Go Vx Con
set_option linter.unusedVariables false
set_option linter.constructorNameAsVariable false
set_option maxRecDepth 100000

theorem all7 : AllFrom (fun c => D c2 7 c = true) 0 256 := (((((((a7_0.append a7_1).append a7_2).append a7_3).append a7_4).append a7_5).append a7_6).append a7_7)
theorem of7 : OfDesc P 7 := ofDesc c2_ok fun c hc => all7.get c (Nat.zero_le _) (by omega)
theorem all9 : AllFrom (fun c => D c2 9 c = true) 0 256 := (((((((a9_0.append a9_1).append a9_2).append a9_3).append a9_4).append a9_5).append a9_6).append a9_7)
theorem of9 : OfDesc P 9 := ofDesc c2_ok fun c hc => all9.get c (Nat.zero_le _) (by omega)
theorem b30t : setF [] (startH [] 1) (fun h => c0 30 [.b true] h 1 (fun v _ _ => sameT v (.ag [.i .u8 2, .f .f64 0x3ff0000000000000, .s 0 0, .i .i64 0]))) = true := by kernel_rfl
theorem b30f : setF [] (startH [] 1) (fun h => c0 30 [.b false] h 1 (fun v _ _ => sameT v (.ag [.i .u8 2, .f .f64 0, .s 0 0, .i .i64 0]))) = true := by kernel_rfl
theorem b25t : setF [] (startH [] 1) (fun h => c0 25 [.b true] h 1 (fun v _ _ => sameT v (.ag [.i .u8 2, .f .f64 0x3ff0000000000000, .s 0 0, .i .i64 0]))) = true := by kernel_rfl
theorem b25f : setF [] (startH [] 1) (fun h => c0 25 [.b false] h 1 (fun v _ _ => sameT v (.ag [.i .u8 2, .f .f64 0, .s 0 0, .i .i64 0]))) = true := by kernel_rfl
noncomputable def S3 : Specs := fun g => match g with
  | 7 => some chkC
  | 9 => some chkC
  | 30 => some (orC boolC (runC c0 30))
  | 25 => some (orC boolC (runC c0 25))
  | g => S2 g
theorem S3_ok : SpecOK P S3 := by
  intro g C hC
  unfold S3 at hC
  split at hC
  · cases hC; exact chkC_ok of7
  · cases hC; exact chkC_ok of9
  · cases hC; exact orC_ok (boolC_ok (boolRun c0_ok b30t b30f)) (runC_ok c0_ok 30)
  · cases hC; exact orC_ok (boolC_ok (boolRun c0_ok b25t b25f)) (runC_ok c0_ok 25)
  · exact S2_ok _ C hC
noncomputable def G (c : Nat) : Bool := setF [] (startH [] 1) (fun h => run S3 40 3 [.ag (.i .u8 (Int.ofNat c) :: leafAVs kindsD.tail 1)] h 16 (fun v h _ => finT v h))
end Go.Proofs.Ytdplmegbnceijaa.Of
