/- Calls whose answers are known, new memory too: each by a closed run of its own, as a contract. No condition. -/
import Derived.Test.YtedamhpjfcddkaaGreatDoorLib0
import Derived.Test.YtedamhpjfcddkaaGreatDoorVxY
import Derived.Test.YtedamhpjfcddkaaGreatDoorVxZ
set_option linter.all false
set_option maxRecDepth 100000
namespace Go.Proofs.YtedamhpjfcddkaaGreatDoor.Hb
open Go Vx

noncomputable def objs0 : List ObjL := []
noncomputable def lit0 : AV := (.tu [.sn, (.i .u8 3), (.s 1 3301905837790198367755598925329888270669766228608205387843921044387895), .sn, (.i .i64 0), (.i .i64 0)])
noncomputable def ids0 : List Nat := []
theorem ran0 : run Lib0.sp 200 5 [.s 8 4266914869299800180, .i .i64 100] (startH [(1, [.ii .i64])] 3) 3 (fun v h _ => bc (sameT v (sh2 (fun j => ids0.getD j 0) lit0)) (sameOs objs0.length (fun j => ids0.getD j 0) h 3 ids0 objs0) false) = true := by kernel_rfl
theorem c0 : CtOK Tryz.prog 5 (memC (fun h b => someInt h 1 b) [.s 8 4266914869299800180, .i .i64 100] lit0 objs0) :=
  memC_ok (ARGS0 := #[.string (Vx.str 8 4266914869299800180), .int .i64 100]) (G := fun w => HoldsG w [(1, [.ii .i64])]) (by kernel_rfl) (fun he hr => someInt_holds he hr) (by kernel_rfl) (fun _ => .cons (by rw [Vx.Rv]) (.cons (by rw [Vx.Rv]) (.nil)))
    (fun w hw => closedM (run_ok Lib0.sp_ok 200) (by kernel_rfl) (by kernel_rfl) (by kernel_rfl) (fun _ => .cons (by rw [Vx.Rv]) (.cons (by rw [Vx.Rv]) (.nil))) ran0 w hw)

noncomputable def objs1 : List ObjL := []
noncomputable def lit1 : AV := (.tu [.sn, (.i .u8 1), (.s 0 0), .sn, (.i .i64 0), (.i .i64 0)])
noncomputable def ids1 : List Nat := []
theorem ran1 : run Lib0.sp 200 5 [.s 15 651534391810844604120781589658036343, .i .i64 100] (startH [(1, [.ii .i64])] 3) 3 (fun v h _ => bc (sameT v (sh2 (fun j => ids1.getD j 0) lit1)) (sameOs objs1.length (fun j => ids1.getD j 0) h 3 ids1 objs1) false) = true := by kernel_rfl
theorem c1 : CtOK Tryz.prog 5 (memC (fun h b => someInt h 1 b) [.s 15 651534391810844604120781589658036343, .i .i64 100] lit1 objs1) :=
  memC_ok (ARGS0 := #[.string (Vx.str 15 651534391810844604120781589658036343), .int .i64 100]) (G := fun w => HoldsG w [(1, [.ii .i64])]) (by kernel_rfl) (fun he hr => someInt_holds he hr) (by kernel_rfl) (fun _ => .cons (by rw [Vx.Rv]) (.cons (by rw [Vx.Rv]) (.nil)))
    (fun w hw => closedM (run_ok Lib0.sp_ok 200) (by kernel_rfl) (by kernel_rfl) (by kernel_rfl) (fun _ => .cons (by rw [Vx.Rv]) (.cons (by rw [Vx.Rv]) (.nil))) ran1 w hw)

noncomputable def sp : Specs := fun g => match g with
  | 5 => some (orC (memC (fun h b => someInt h 1 b) [.s 8 4266914869299800180, .i .i64 100] lit0 objs0) (memC (fun h b => someInt h 1 b) [.s 15 651534391810844604120781589658036343, .i .i64 100] lit1 objs1))
  | g => Lib0.sp g
theorem sp_ok : SpecOK Tryz.prog sp := by
  intro g C hC
  unfold sp at hC
  split at hC
  · cases hC; exact orC_ok c0 (c1)
  · exact Lib0.sp_ok _ _ hC
end Go.Proofs.YtedamhpjfcddkaaGreatDoor.Hb
