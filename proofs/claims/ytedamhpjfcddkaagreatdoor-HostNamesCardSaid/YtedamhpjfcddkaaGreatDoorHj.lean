/- The calls whose answers are known, together. No condition. -/
import Derived.Test.YtedamhpjfcddkaaGreatDoorHa
import Derived.Test.YtedamhpjfcddkaaGreatDoorHb
import Derived.Test.YtedamhpjfcddkaaGreatDoorHc
import Derived.Test.YtedamhpjfcddkaaGreatDoorLb
set_option linter.all false
namespace Go.Proofs.YtedamhpjfcddkaaGreatDoor.Hj
open Go Vx
noncomputable def ld : Ct := runC (run Lb.sp 200) 4
noncomputable def sp : Specs := fun g => match g with
  | 4 => some (orC (memC (fun h b => someInt h 1 b) [.s 7 13836754392543856] Ha.lit0 Ha.objs0) (orC (memC (fun h b => someInt h 1 b) [.s 13 4704520869585918514786190255468] Ha.lit1 Ha.objs1) ld))
  | 5 => some (orC (memC (fun h b => someInt h 1 b) [.s 2 15153, .i .i64 0] Ha.lit2 Ha.objs2) (orC (memC (fun h b => someInt h 1 b) [.s 1 120, .i .i64 1] Ha.lit3 Ha.objs3) (orC (memC (fun h b => someInt h 1 b) [.s 8 4266914869299800180, .i .i64 100] Hb.lit0 Hb.objs0) (memC (fun h b => someInt h 1 b) [.s 15 651534391810844604120781589658036343, .i .i64 100] Hb.lit1 Hb.objs1))))
  | 10 => some (memC (fun h b => someInt h 1 b) [] Hc.lit0 Hc.objs0)
  | g => Lib0.sp g
theorem sp_ok : SpecOK Tryz.prog sp := by
  intro g C hC
  unfold sp at hC
  split at hC
  · cases hC; exact orC_ok Ha.c0 (orC_ok Ha.c1 (runC_ok (run_ok Lb.sp_ok 200) 4))
  · cases hC; exact orC_ok Ha.c2 (orC_ok Ha.c3 (orC_ok Hb.c0 Hb.c1))
  · cases hC; exact Hc.c0
  · exact Lib0.sp_ok _ _ hC
end Go.Proofs.YtedamhpjfcddkaaGreatDoor.Hj
