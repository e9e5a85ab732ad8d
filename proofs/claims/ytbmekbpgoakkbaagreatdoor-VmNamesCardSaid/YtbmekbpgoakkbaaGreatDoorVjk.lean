/- Calls whose answers are known, as contracts, and together. No condition. -/
import Derived.Test.YtbmekbpgoakkbaaGreatDoorSo
import Derived.Test.YtbmekbpgoakkbaaGreatDoorQr
import Derived.Test.YtbmekbpgoakkbaaGreatDoorVa
import Derived.Test.YtbmekbpgoakkbaaGreatDoorVb
import Derived.Test.YtbmekbpgoakkbaaGreatDoorVc
import Derived.Test.YtbmekbpgoakkbaaGreatDoorVd
import Derived.Test.YtbmekbpgoakkbaaGreatDoorVr
set_option linter.all false
set_option maxRecDepth 100000
namespace Go.Proofs.YtbmekbpgoakkbaaGreatDoor.Qr
open Go Vx

theorem c0 : CtOK Tryz.prog 24 (memC (fun h b => someInt h 1 b) args0 lit0 objs0) :=
  memC_ok (ARGS0 := #[.string (Vx.str 76 245492282090771750449205130372006074753113576694515443808017264060836849674031136460425625314921707948881129541370757925755286965574369000627953241223089665123470858111178153842206060)]) (G := fun w => HoldsG w [(1, [.ii .i64])]) (by kernel_rfl) (fun he hr => someInt_holds he hr) (by kernel_rfl) (fun _ => .cons (by rw [Vx.Rv]) (.nil))
    (fun w hw => closedM (run_ok So.sp_ok 200) (by kernel_rfl) (by kernel_rfl) (by kernel_rfl) (fun _ => .cons (by rw [Vx.Rv]) (.nil)) ran0 w hw)

theorem c1 : CtOK Tryz.prog 24 (memC (fun h b => someInt h 1 b) args1 lit1 objs1) :=
  memC_ok (ARGS0 := #[.string (Vx.str 64 3098511279286321537275949921388490526992397931563926962350996395140603262203061417659219370717099112435983404309389901284715704466263302537597384782013804)]) (G := fun w => HoldsG w [(1, [.ii .i64])]) (by kernel_rfl) (fun he hr => someInt_holds he hr) (by kernel_rfl) (fun _ => .cons (by rw [Vx.Rv]) (.nil))
    (fun w hw => closedM (run_ok So.sp_ok 200) (by kernel_rfl) (by kernel_rfl) (by kernel_rfl) (fun _ => .cons (by rw [Vx.Rv]) (.nil)) ran1 w hw)

theorem sp_ok : SpecOK Tryz.prog sp := by
  intro g C hC
  unfold sp at hC
  split at hC
  · cases hC; exact So.selC_ok c0 (c1)
  · exact So.sp_ok _ _ hC
end Go.Proofs.YtbmekbpgoakkbaaGreatDoor.Qr
set_option linter.all false
set_option maxRecDepth 100000
namespace Go.Proofs.YtbmekbpgoakkbaaGreatDoor.Va
open Go Vx

theorem c0 : CtOK Tryz.prog 5 (memC (fun h b => someInt h 1 b) args0 lit0 objs0) :=
  memC_ok (ARGS0 := #[.string (Vx.str 76 245492282090771750449205130372006074753113576694515443808017264060836849674031136460425625314921707948881129541370757925755286965574369000627953241223089665123470858111178153842206060), .string (Vx.str 4 996368993), .int .u8 2, .string (Vx.str 0 0), .float .f64 0]) (G := fun w => HoldsG w [(1, [.ii .i64])]) (by kernel_rfl) (fun he hr => someInt_holds he hr) (by kernel_rfl) (fun _ => .cons (by rw [Vx.Rv]) (.cons (by rw [Vx.Rv]) (.cons (by rw [Vx.Rv]) (.cons (by rw [Vx.Rv]) (.cons (by rw [Vx.Rv]) (.nil))))))
    (fun w hw => closedM (run_ok Qr.sp_ok 200) (by kernel_rfl) (by kernel_rfl) (by kernel_rfl) (fun _ => .cons (by rw [Vx.Rv]) (.cons (by rw [Vx.Rv]) (.cons (by rw [Vx.Rv]) (.cons (by rw [Vx.Rv]) (.cons (by rw [Vx.Rv]) (.nil)))))) ran0 w hw)

theorem sp_ok : SpecOK Tryz.prog sp := by
  intro g C hC
  unfold sp at hC
  split at hC
  · cases hC; exact c0
  · exact Qr.sp_ok _ _ hC
end Go.Proofs.YtbmekbpgoakkbaaGreatDoor.Va
set_option linter.all false
set_option maxRecDepth 100000
namespace Go.Proofs.YtbmekbpgoakkbaaGreatDoor.Vb
open Go Vx

theorem c0 : CtOK Tryz.prog 5 (memC (fun h b => someInt h 1 b) args0 lit0 objs0) :=
  memC_ok (ARGS0 := #[.string (Vx.str 64 3098511279286321537275949921388490526992397931563926962350996395140603262203061417659219370717099112435983404309389901284715704466263302537597384782013804), .string (Vx.str 0 0), .int .u8 2, .string (Vx.str 0 0), .float .f64 4638144666238189568]) (G := fun w => HoldsG w [(1, [.ii .i64])]) (by kernel_rfl) (fun he hr => someInt_holds he hr) (by kernel_rfl) (fun _ => .cons (by rw [Vx.Rv]) (.cons (by rw [Vx.Rv]) (.cons (by rw [Vx.Rv]) (.cons (by rw [Vx.Rv]) (.cons (by rw [Vx.Rv]) (.nil))))))
    (fun w hw => closedM (run_ok Qr.sp_ok 200) (by kernel_rfl) (by kernel_rfl) (by kernel_rfl) (fun _ => .cons (by rw [Vx.Rv]) (.cons (by rw [Vx.Rv]) (.cons (by rw [Vx.Rv]) (.cons (by rw [Vx.Rv]) (.cons (by rw [Vx.Rv]) (.nil)))))) ran0 w hw)

theorem sp_ok : SpecOK Tryz.prog sp := by
  intro g C hC
  unfold sp at hC
  split at hC
  · cases hC; exact c0
  · exact Qr.sp_ok _ _ hC
end Go.Proofs.YtbmekbpgoakkbaaGreatDoor.Vb
set_option linter.all false
set_option maxRecDepth 100000
namespace Go.Proofs.YtbmekbpgoakkbaaGreatDoor.Vc
open Go Vx

theorem c0 : CtOK Tryz.prog 5 (memC (fun h b => someInt h 1 b) args0 lit0 objs0) :=
  memC_ok (ARGS0 := #[.string (Vx.str 61 390611605427880013275844587743021750601678782515277282328306511303966460271396878467451134951873886562014480717525626407253928459399225282674651764), .string (Vx.str 2 15206), .int .u8 2, .string (Vx.str 0 0), .float .f64 4611686018427387904]) (G := fun w => HoldsG w [(1, [.ii .i64])]) (by kernel_rfl) (fun he hr => someInt_holds he hr) (by kernel_rfl) (fun _ => .cons (by rw [Vx.Rv]) (.cons (by rw [Vx.Rv]) (.cons (by rw [Vx.Rv]) (.cons (by rw [Vx.Rv]) (.cons (by rw [Vx.Rv]) (.nil))))))
    (fun w hw => closedM (run_ok So.sp_ok 200) (by kernel_rfl) (by kernel_rfl) (by kernel_rfl) (fun _ => .cons (by rw [Vx.Rv]) (.cons (by rw [Vx.Rv]) (.cons (by rw [Vx.Rv]) (.cons (by rw [Vx.Rv]) (.cons (by rw [Vx.Rv]) (.nil)))))) ran0 w hw)

theorem c1 : CtOK Tryz.prog 5 (memC (fun h b => someInt h 1 b) args1 lit1 objs1) :=
  memC_ok (ARGS0 := #[.string (Vx.str 16 78710681802847840820856284223996785264), .string (Vx.str 2 15155), .int .u8 2, .string (Vx.str 0 0), .float .f64 4619567317775286272]) (G := fun w => HoldsG w [(1, [.ii .i64])]) (by kernel_rfl) (fun he hr => someInt_holds he hr) (by kernel_rfl) (fun _ => .cons (by rw [Vx.Rv]) (.cons (by rw [Vx.Rv]) (.cons (by rw [Vx.Rv]) (.cons (by rw [Vx.Rv]) (.cons (by rw [Vx.Rv]) (.nil))))))
    (fun w hw => closedM (run_ok So.sp_ok 200) (by kernel_rfl) (by kernel_rfl) (by kernel_rfl) (fun _ => .cons (by rw [Vx.Rv]) (.cons (by rw [Vx.Rv]) (.cons (by rw [Vx.Rv]) (.cons (by rw [Vx.Rv]) (.cons (by rw [Vx.Rv]) (.nil)))))) ran1 w hw)

theorem sp_ok : SpecOK Tryz.prog sp := by
  intro g C hC
  unfold sp at hC
  split at hC
  · cases hC; exact So.selC_ok c0 (c1)
  · exact So.sp_ok _ _ hC
end Go.Proofs.YtbmekbpgoakkbaaGreatDoor.Vc
set_option linter.all false
set_option maxRecDepth 100000
namespace Go.Proofs.YtbmekbpgoakkbaaGreatDoor.Vd
open Go Vx

theorem c0 : CtOK Tryz.prog 5 (memC (fun h b => someInt h 1 b) args0 lit0 objs0) :=
  memC_ok (ARGS0 := #[.string (Vx.str 54 5420824976081343619763451683109202933549448123420489001658971243258909320915900617908059274999453404486004143962284357208119603046), .string (Vx.str 2 15153), .int .u8 2, .string (Vx.str 0 0), .float .f64 0]) (G := fun w => HoldsG w [(1, [.ii .i64])]) (by kernel_rfl) (fun he hr => someInt_holds he hr) (by kernel_rfl) (fun _ => .cons (by rw [Vx.Rv]) (.cons (by rw [Vx.Rv]) (.cons (by rw [Vx.Rv]) (.cons (by rw [Vx.Rv]) (.cons (by rw [Vx.Rv]) (.nil))))))
    (fun w hw => closedM (run_ok So.sp_ok 200) (by kernel_rfl) (by kernel_rfl) (by kernel_rfl) (fun _ => .cons (by rw [Vx.Rv]) (.cons (by rw [Vx.Rv]) (.cons (by rw [Vx.Rv]) (.cons (by rw [Vx.Rv]) (.cons (by rw [Vx.Rv]) (.nil)))))) ran0 w hw)

theorem c1 : CtOK Tryz.prog 5 (memC (fun h b => someInt h 1 b) args1 lit1 objs1) :=
  memC_ok (ARGS0 := #[.string (Vx.str 2 15224), .string (Vx.str 0 0), .int .u8 3, .string (Vx.str 4 1701667182), .float .f64 0]) (G := fun w => HoldsG w [(1, [.ii .i64])]) (by kernel_rfl) (fun he hr => someInt_holds he hr) (by kernel_rfl) (fun _ => .cons (by rw [Vx.Rv]) (.cons (by rw [Vx.Rv]) (.cons (by rw [Vx.Rv]) (.cons (by rw [Vx.Rv]) (.cons (by rw [Vx.Rv]) (.nil))))))
    (fun w hw => closedM (run_ok So.sp_ok 200) (by kernel_rfl) (by kernel_rfl) (by kernel_rfl) (fun _ => .cons (by rw [Vx.Rv]) (.cons (by rw [Vx.Rv]) (.cons (by rw [Vx.Rv]) (.cons (by rw [Vx.Rv]) (.cons (by rw [Vx.Rv]) (.nil)))))) ran1 w hw)

theorem sp_ok : SpecOK Tryz.prog sp := by
  intro g C hC
  unfold sp at hC
  split at hC
  · cases hC; exact So.selC_ok c0 (c1)
  · exact So.sp_ok _ _ hC
end Go.Proofs.YtbmekbpgoakkbaaGreatDoor.Vd
set_option linter.all false
namespace Go.Proofs.YtbmekbpgoakkbaaGreatDoor.Vj
open Go Vx
theorem sp_ok : SpecOK Tryz.prog sp := by
  intro g C hC
  unfold sp at hC
  split at hC
  · cases hC; exact So.selC_ok Va.c0 (So.selC_ok Vb.c0 (So.selC_ok Vc.c0 (So.selC_ok Vc.c1 (So.selC_ok Vd.c0 (Vd.c1)))))
  · exact So.sp_ok _ _ hC
end Go.Proofs.YtbmekbpgoakkbaaGreatDoor.Vj
