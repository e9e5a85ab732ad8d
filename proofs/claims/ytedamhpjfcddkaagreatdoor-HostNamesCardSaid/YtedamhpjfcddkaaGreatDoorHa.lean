/- Calls whose answers are known, new memory too: each by a closed run of its own, as a contract. No condition. -/
import Derived.Test.YtedamhpjfcddkaaGreatDoorLib0
import Derived.Test.YtedamhpjfcddkaaGreatDoorVxY
import Derived.Test.YtedamhpjfcddkaaGreatDoorVxZ
set_option linter.all false
set_option maxRecDepth 100000
namespace Go.Proofs.YtedamhpjfcddkaaGreatDoor.Ha
open Go Vx

noncomputable def objs0 : List ObjL := []
noncomputable def lit0 : AV := (.tu [.pn, (.i .i64 7), (.i .i64 5)])
noncomputable def ids0 : List Nat := []
theorem ran0 : run Lib0.sp 200 4 [.s 7 13836754392543856] (startH [(1, [.ii .i64])] 3) 3 (fun v h _ => bc (sameT v (sh2 (fun j => ids0.getD j 0) lit0)) (sameOs objs0.length (fun j => ids0.getD j 0) h 3 ids0 objs0) false) = true := by kernel_rfl
theorem c0 : CtOK Tryz.prog 4 (memC (fun h b => someInt h 1 b) [.s 7 13836754392543856] lit0 objs0) :=
  memC_ok (ARGS0 := #[.string (Vx.str 7 13836754392543856)]) (G := fun w => HoldsG w [(1, [.ii .i64])]) (by kernel_rfl) (fun he hr => someInt_holds he hr) (by kernel_rfl) (fun _ => .cons (by rw [Vx.Rv]) (.nil))
    (fun w hw => closedM (run_ok Lib0.sp_ok 200) (by kernel_rfl) (by kernel_rfl) (by kernel_rfl) (fun _ => .cons (by rw [Vx.Rv]) (.nil)) ran0 w hw)

noncomputable def objs1 : List ObjL := []
noncomputable def lit1 : AV := (.tu [.pn, (.i .i64 7), (.i .i64 7)])
noncomputable def ids1 : List Nat := []
theorem ran1 : run Lib0.sp 200 4 [.s 13 4704520869585918514786190255468] (startH [(1, [.ii .i64])] 3) 3 (fun v h _ => bc (sameT v (sh2 (fun j => ids1.getD j 0) lit1)) (sameOs objs1.length (fun j => ids1.getD j 0) h 3 ids1 objs1) false) = true := by kernel_rfl
theorem c1 : CtOK Tryz.prog 4 (memC (fun h b => someInt h 1 b) [.s 13 4704520869585918514786190255468] lit1 objs1) :=
  memC_ok (ARGS0 := #[.string (Vx.str 13 4704520869585918514786190255468)]) (G := fun w => HoldsG w [(1, [.ii .i64])]) (by kernel_rfl) (fun he hr => someInt_holds he hr) (by kernel_rfl) (fun _ => .cons (by rw [Vx.Rv]) (.nil))
    (fun w hw => closedM (run_ok Lib0.sp_ok 200) (by kernel_rfl) (by kernel_rfl) (by kernel_rfl) (fun _ => .cons (by rw [Vx.Rv]) (.nil)) ran1 w hw)

noncomputable def objs2 : List ObjL := []
noncomputable def lit2 : AV := (.tu [.sn, (.i .u8 0), (.s 0 0), .sn, (.i .i64 0), (.i .i64 8)])
noncomputable def ids2 : List Nat := []
theorem ran2 : run Lib0.sp 200 5 [.s 2 15153, .i .i64 0] (startH [(1, [.ii .i64])] 3) 3 (fun v h _ => bc (sameT v (sh2 (fun j => ids2.getD j 0) lit2)) (sameOs objs2.length (fun j => ids2.getD j 0) h 3 ids2 objs2) false) = true := by kernel_rfl
theorem c2 : CtOK Tryz.prog 5 (memC (fun h b => someInt h 1 b) [.s 2 15153, .i .i64 0] lit2 objs2) :=
  memC_ok (ARGS0 := #[.string (Vx.str 2 15153), .int .i64 0]) (G := fun w => HoldsG w [(1, [.ii .i64])]) (by kernel_rfl) (fun he hr => someInt_holds he hr) (by kernel_rfl) (fun _ => .cons (by rw [Vx.Rv]) (.cons (by rw [Vx.Rv]) (.nil)))
    (fun w hw => closedM (run_ok Lib0.sp_ok 200) (by kernel_rfl) (by kernel_rfl) (by kernel_rfl) (fun _ => .cons (by rw [Vx.Rv]) (.cons (by rw [Vx.Rv]) (.nil))) ran2 w hw)

noncomputable def objs3 : List ObjL := []
noncomputable def lit3 : AV := (.tu [.sn, (.i .u8 0), (.s 0 0), .sn, (.i .i64 1), (.i .i64 5)])
noncomputable def ids3 : List Nat := []
theorem ran3 : run Lib0.sp 200 5 [.s 1 120, .i .i64 1] (startH [(1, [.ii .i64])] 3) 3 (fun v h _ => bc (sameT v (sh2 (fun j => ids3.getD j 0) lit3)) (sameOs objs3.length (fun j => ids3.getD j 0) h 3 ids3 objs3) false) = true := by kernel_rfl
theorem c3 : CtOK Tryz.prog 5 (memC (fun h b => someInt h 1 b) [.s 1 120, .i .i64 1] lit3 objs3) :=
  memC_ok (ARGS0 := #[.string (Vx.str 1 120), .int .i64 1]) (G := fun w => HoldsG w [(1, [.ii .i64])]) (by kernel_rfl) (fun he hr => someInt_holds he hr) (by kernel_rfl) (fun _ => .cons (by rw [Vx.Rv]) (.cons (by rw [Vx.Rv]) (.nil)))
    (fun w hw => closedM (run_ok Lib0.sp_ok 200) (by kernel_rfl) (by kernel_rfl) (by kernel_rfl) (fun _ => .cons (by rw [Vx.Rv]) (.cons (by rw [Vx.Rv]) (.nil))) ran3 w hw)

noncomputable def sp : Specs := fun g => match g with
  | 4 => some (orC (memC (fun h b => someInt h 1 b) [.s 7 13836754392543856] lit0 objs0) (memC (fun h b => someInt h 1 b) [.s 13 4704520869585918514786190255468] lit1 objs1))
  | 5 => some (orC (memC (fun h b => someInt h 1 b) [.s 2 15153, .i .i64 0] lit2 objs2) (memC (fun h b => someInt h 1 b) [.s 1 120, .i .i64 1] lit3 objs3))
  | g => Lib0.sp g
theorem sp_ok : SpecOK Tryz.prog sp := by
  intro g C hC
  unfold sp at hC
  split at hC
  · cases hC; exact orC_ok c0 (c1)
  · cases hC; exact orC_ok c2 (c3)
  · exact Lib0.sp_ok _ _ hC
end Go.Proofs.YtedamhpjfcddkaaGreatDoor.Ha
