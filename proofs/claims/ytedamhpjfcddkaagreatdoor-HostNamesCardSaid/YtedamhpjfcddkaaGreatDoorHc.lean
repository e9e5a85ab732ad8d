/- Calls whose answers are known, new memory too: each by a closed run of its own, as a contract. No condition. -/
import Derived.Test.YtedamhpjfcddkaaGreatDoorBs
import Derived.Test.YtedamhpjfcddkaaGreatDoorVxY
import Derived.Test.YtedamhpjfcddkaaGreatDoorVxZ
set_option linter.all false
set_option maxRecDepth 100000
namespace Go.Proofs.YtedamhpjfcddkaaGreatDoor.Hc
open Go Vx

noncomputable def objs0 : List ObjL := []
noncomputable def lit0 : AV := (.b true)
noncomputable def ids0 : List Nat := []
theorem ran0 : run Bs.sp 200 10 [] (startH [(1, [.ii .i64])] 3) 3 (fun v h _ => bc (sameT v (sh2 (fun j => ids0.getD j 0) lit0)) (sameOs objs0.length (fun j => ids0.getD j 0) h 3 ids0 objs0) false) = true := by kernel_rfl
theorem c0 : CtOK Tryz.prog 10 (memC (fun h b => someInt h 1 b) [] lit0 objs0) :=
  memC_ok (ARGS0 := #[]) (G := fun w => HoldsG w [(1, [.ii .i64])]) (by kernel_rfl) (fun he hr => someInt_holds he hr) (by kernel_rfl) (fun _ => .nil)
    (fun w hw => closedM (run_ok Bs.sp_ok 200) (by kernel_rfl) (by kernel_rfl) (by kernel_rfl) (fun _ => .nil) ran0 w hw)

noncomputable def sp : Specs := fun g => match g with
  | 10 => some (memC (fun h b => someInt h 1 b) [] lit0 objs0)
  | g => Bs.sp g
theorem sp_ok : SpecOK Tryz.prog sp := by
  intro g C hC
  unfold sp at hC
  split at hC
  · cases hC; exact c0
  · exact Bs.sp_ok _ _ hC
end Go.Proofs.YtedamhpjfcddkaaGreatDoor.Hc
