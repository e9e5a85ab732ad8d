/- Calls whose answers are known: each by a closed run. No condition. -/
import Derived.Test.YtcjchampleghnaaGreatDoorLib0
import Derived.Test.YtcjchampleghnaaGreatDoorVxY
import Derived.Test.YtcjchampleghnaaGreatDoorVxZ
namespace Go.Proofs.YtcjchampleghnaaGreatDoor.SCalls
open Go

theorem ran0 : Vx.run Lib0.sp 60 12 [.s 21 86514765089778398338900299479924197495473574274412, .i .i64 11] (Vx.startH [(0, [.ii .i64])] 2) 2 (fun v _ _ => Vx.sameV v (.b true)) = true := by kernel_rfl
theorem c0 : Vx.CtOK Tryz.prog 12 (Vx.valC (fun h b => Vx.someInt h 0 b) [.s 21 86514765089778398338900299479924197495473574274412, .i .i64 11] (.b true)) :=
  Vx.valC_ok (ARGS0 := #[.string (Vx.str 21 86514765089778398338900299479924197495473574274412), .int .i64 11]) (G := fun w => Vx.HoldsG w [(0, [.ii .i64])]) (fun he hr => Vx.someInt_holds he hr) (by kernel_rfl) (fun _ => .cons (by rw [Vx.Rv]) (.cons (by rw [Vx.Rv]) (.nil)))
    (fun w hw => Vx.closedV (Vx.run_ok Lib0.sp_ok 60) (by kernel_rfl) (by kernel_rfl) (fun _ => .cons (by rw [Vx.Rv]) (.cons (by rw [Vx.Rv]) (.nil))) (by kernel_rfl) ran0 w hw)
theorem ran1 : Vx.run Lib0.sp 60 12 [.s 6 65082180313185, .i .i64 0] (Vx.startH [(0, [.ii .i64])] 2) 2 (fun v _ _ => Vx.sameV v (.b true)) = true := by kernel_rfl
theorem c1 : Vx.CtOK Tryz.prog 12 (Vx.valC (fun h b => Vx.someInt h 0 b) [.s 6 65082180313185, .i .i64 0] (.b true)) :=
  Vx.valC_ok (ARGS0 := #[.string (Vx.str 6 65082180313185), .int .i64 0]) (G := fun w => Vx.HoldsG w [(0, [.ii .i64])]) (fun he hr => Vx.someInt_holds he hr) (by kernel_rfl) (fun _ => .cons (by rw [Vx.Rv]) (.cons (by rw [Vx.Rv]) (.nil)))
    (fun w hw => Vx.closedV (Vx.run_ok Lib0.sp_ok 60) (by kernel_rfl) (by kernel_rfl) (fun _ => .cons (by rw [Vx.Rv]) (.cons (by rw [Vx.Rv]) (.nil))) (by kernel_rfl) ran1 w hw)
theorem ran2 : Vx.run Lib0.sp 60 12 [.s 19 1320110551296667437418511988716448190691176291, .i .i64 13] (Vx.startH [(0, [.ii .i64])] 2) 2 (fun v _ _ => Vx.sameV v (.b true)) = true := by kernel_rfl
theorem c2 : Vx.CtOK Tryz.prog 12 (Vx.valC (fun h b => Vx.someInt h 0 b) [.s 19 1320110551296667437418511988716448190691176291, .i .i64 13] (.b true)) :=
  Vx.valC_ok (ARGS0 := #[.string (Vx.str 19 1320110551296667437418511988716448190691176291), .int .i64 13]) (G := fun w => Vx.HoldsG w [(0, [.ii .i64])]) (fun he hr => Vx.someInt_holds he hr) (by kernel_rfl) (fun _ => .cons (by rw [Vx.Rv]) (.cons (by rw [Vx.Rv]) (.nil)))
    (fun w hw => Vx.closedV (Vx.run_ok Lib0.sp_ok 60) (by kernel_rfl) (by kernel_rfl) (fun _ => .cons (by rw [Vx.Rv]) (.cons (by rw [Vx.Rv]) (.nil))) (by kernel_rfl) ran2 w hw)
theorem ran3 : Vx.run Lib0.sp 60 12 [.s 6 65332381577826, .i .i64 0] (Vx.startH [(0, [.ii .i64])] 2) 2 (fun v _ _ => Vx.sameV v (.b true)) = true := by kernel_rfl
theorem c3 : Vx.CtOK Tryz.prog 12 (Vx.valC (fun h b => Vx.someInt h 0 b) [.s 6 65332381577826, .i .i64 0] (.b true)) :=
  Vx.valC_ok (ARGS0 := #[.string (Vx.str 6 65332381577826), .int .i64 0]) (G := fun w => Vx.HoldsG w [(0, [.ii .i64])]) (fun he hr => Vx.someInt_holds he hr) (by kernel_rfl) (fun _ => .cons (by rw [Vx.Rv]) (.cons (by rw [Vx.Rv]) (.nil)))
    (fun w hw => Vx.closedV (Vx.run_ok Lib0.sp_ok 60) (by kernel_rfl) (by kernel_rfl) (fun _ => .cons (by rw [Vx.Rv]) (.cons (by rw [Vx.Rv]) (.nil))) (by kernel_rfl) ran3 w hw)
theorem ran4 : Vx.run Lib0.sp 60 12 [.s 37 62228519480018683550184884051977609887951641800861348097098126049706884502943191253215351, .i .i64 27] (Vx.startH [(0, [.ii .i64])] 2) 2 (fun v _ _ => Vx.sameV v (.b true)) = true := by kernel_rfl
theorem c4 : Vx.CtOK Tryz.prog 12 (Vx.valC (fun h b => Vx.someInt h 0 b) [.s 37 62228519480018683550184884051977609887951641800861348097098126049706884502943191253215351, .i .i64 27] (.b true)) :=
  Vx.valC_ok (ARGS0 := #[.string (Vx.str 37 62228519480018683550184884051977609887951641800861348097098126049706884502943191253215351), .int .i64 27]) (G := fun w => Vx.HoldsG w [(0, [.ii .i64])]) (fun he hr => Vx.someInt_holds he hr) (by kernel_rfl) (fun _ => .cons (by rw [Vx.Rv]) (.cons (by rw [Vx.Rv]) (.nil)))
    (fun w hw => Vx.closedV (Vx.run_ok Lib0.sp_ok 60) (by kernel_rfl) (by kernel_rfl) (fun _ => .cons (by rw [Vx.Rv]) (.cons (by rw [Vx.Rv]) (.nil))) (by kernel_rfl) ran4 w hw)
theorem ran5 : Vx.run Lib0.sp 60 12 [.s 7 16728461501818226, .i .i64 0] (Vx.startH [(0, [.ii .i64])] 2) 2 (fun v _ _ => Vx.sameV v (.b true)) = true := by kernel_rfl
theorem c5 : Vx.CtOK Tryz.prog 12 (Vx.valC (fun h b => Vx.someInt h 0 b) [.s 7 16728461501818226, .i .i64 0] (.b true)) :=
  Vx.valC_ok (ARGS0 := #[.string (Vx.str 7 16728461501818226), .int .i64 0]) (G := fun w => Vx.HoldsG w [(0, [.ii .i64])]) (fun he hr => Vx.someInt_holds he hr) (by kernel_rfl) (fun _ => .cons (by rw [Vx.Rv]) (.cons (by rw [Vx.Rv]) (.nil)))
    (fun w hw => Vx.closedV (Vx.run_ok Lib0.sp_ok 60) (by kernel_rfl) (by kernel_rfl) (fun _ => .cons (by rw [Vx.Rv]) (.cons (by rw [Vx.Rv]) (.nil))) (by kernel_rfl) ran5 w hw)
theorem ran6 : Vx.run Lib0.sp 60 12 [.s 9 1095356605720389510500, .i .i64 0] (Vx.startH [(0, [.ii .i64])] 2) 2 (fun v _ _ => Vx.sameV v (.b true)) = true := by kernel_rfl
theorem c6 : Vx.CtOK Tryz.prog 12 (Vx.valC (fun h b => Vx.someInt h 0 b) [.s 9 1095356605720389510500, .i .i64 0] (.b true)) :=
  Vx.valC_ok (ARGS0 := #[.string (Vx.str 9 1095356605720389510500), .int .i64 0]) (G := fun w => Vx.HoldsG w [(0, [.ii .i64])]) (fun he hr => Vx.someInt_holds he hr) (by kernel_rfl) (fun _ => .cons (by rw [Vx.Rv]) (.cons (by rw [Vx.Rv]) (.nil)))
    (fun w hw => Vx.closedV (Vx.run_ok Lib0.sp_ok 60) (by kernel_rfl) (by kernel_rfl) (fun _ => .cons (by rw [Vx.Rv]) (.cons (by rw [Vx.Rv]) (.nil))) (by kernel_rfl) ran6 w hw)
theorem ran7 : Vx.run Lib0.sp 60 12 [.s 19 2798318905024329048735112166905077476677809510, .i .i64 14] (Vx.startH [(0, [.ii .i64])] 2) 2 (fun v _ _ => Vx.sameV v (.b true)) = true := by kernel_rfl
theorem c7 : Vx.CtOK Tryz.prog 12 (Vx.valC (fun h b => Vx.someInt h 0 b) [.s 19 2798318905024329048735112166905077476677809510, .i .i64 14] (.b true)) :=
  Vx.valC_ok (ARGS0 := #[.string (Vx.str 19 2798318905024329048735112166905077476677809510), .int .i64 14]) (G := fun w => Vx.HoldsG w [(0, [.ii .i64])]) (fun he hr => Vx.someInt_holds he hr) (by kernel_rfl) (fun _ => .cons (by rw [Vx.Rv]) (.cons (by rw [Vx.Rv]) (.nil)))
    (fun w hw => Vx.closedV (Vx.run_ok Lib0.sp_ok 60) (by kernel_rfl) (by kernel_rfl) (fun _ => .cons (by rw [Vx.Rv]) (.cons (by rw [Vx.Rv]) (.nil))) (by kernel_rfl) ran7 w hw)
theorem ran8 : Vx.run Lib0.sp 60 12 [.s 24 3068078289285181987732612115568453173224979757799494808934, .i .i64 16] (Vx.startH [(0, [.ii .i64])] 2) 2 (fun v _ _ => Vx.sameV v (.b true)) = true := by kernel_rfl
theorem c8 : Vx.CtOK Tryz.prog 12 (Vx.valC (fun h b => Vx.someInt h 0 b) [.s 24 3068078289285181987732612115568453173224979757799494808934, .i .i64 16] (.b true)) :=
  Vx.valC_ok (ARGS0 := #[.string (Vx.str 24 3068078289285181987732612115568453173224979757799494808934), .int .i64 16]) (G := fun w => Vx.HoldsG w [(0, [.ii .i64])]) (fun he hr => Vx.someInt_holds he hr) (by kernel_rfl) (fun _ => .cons (by rw [Vx.Rv]) (.cons (by rw [Vx.Rv]) (.nil)))
    (fun w hw => Vx.closedV (Vx.run_ok Lib0.sp_ok 60) (by kernel_rfl) (by kernel_rfl) (fun _ => .cons (by rw [Vx.Rv]) (.cons (by rw [Vx.Rv]) (.nil))) (by kernel_rfl) ran8 w hw)
theorem ran9 : Vx.run Lib0.sp 60 12 [.s 27 51473812262327698422916270642063875074433099041975327738360853108, .i .i64 19] (Vx.startH [(0, [.ii .i64])] 2) 2 (fun v _ _ => Vx.sameV v (.b true)) = true := by kernel_rfl
theorem c9 : Vx.CtOK Tryz.prog 12 (Vx.valC (fun h b => Vx.someInt h 0 b) [.s 27 51473812262327698422916270642063875074433099041975327738360853108, .i .i64 19] (.b true)) :=
  Vx.valC_ok (ARGS0 := #[.string (Vx.str 27 51473812262327698422916270642063875074433099041975327738360853108), .int .i64 19]) (G := fun w => Vx.HoldsG w [(0, [.ii .i64])]) (fun he hr => Vx.someInt_holds he hr) (by kernel_rfl) (fun _ => .cons (by rw [Vx.Rv]) (.cons (by rw [Vx.Rv]) (.nil)))
    (fun w hw => Vx.closedV (Vx.run_ok Lib0.sp_ok 60) (by kernel_rfl) (by kernel_rfl) (fun _ => .cons (by rw [Vx.Rv]) (.cons (by rw [Vx.Rv]) (.nil))) (by kernel_rfl) ran9 w hw)
theorem ran10 : Vx.run Lib0.sp 60 13 [.s 16 166320857329861288258008211337866667372, .i .u8 26, .s 1 98] (Vx.startH [(0, [.ii .i64])] 2) 2 (fun v _ _ => Vx.sameV v (.ag [.i .i64 (-1), .i .i64 0])) = true := by kernel_rfl
theorem c10 : Vx.CtOK Tryz.prog 13 (Vx.valC (fun h b => Vx.someInt h 0 b) [.s 16 166320857329861288258008211337866667372, .i .u8 26, .s 1 98] (.ag [.i .i64 (-1), .i .i64 0])) :=
  Vx.valC_ok (ARGS0 := #[.string (Vx.str 16 166320857329861288258008211337866667372), .int .u8 26, .string (Vx.str 1 98)]) (G := fun w => Vx.HoldsG w [(0, [.ii .i64])]) (fun he hr => Vx.someInt_holds he hr) (by kernel_rfl) (fun _ => .cons (by rw [Vx.Rv]) (.cons (by rw [Vx.Rv]) (.cons (by rw [Vx.Rv]) (.nil))))
    (fun w hw => Vx.closedV (Vx.run_ok Lib0.sp_ok 60) (by kernel_rfl) (by kernel_rfl) (fun _ => .cons (by rw [Vx.Rv]) (.cons (by rw [Vx.Rv]) (.cons (by rw [Vx.Rv]) (.nil)))) (by kernel_rfl) ran10 w hw)
theorem ran11 : Vx.run Lib0.sp 60 13 [.s 16 166320857329861288258008211337866667372, .i .u8 26, .s 1 97] (Vx.startH [(0, [.ii .i64])] 2) 2 (fun v _ _ => Vx.sameV v (.ag [.i .i64 1, .i .i64 0])) = true := by kernel_rfl
theorem c11 : Vx.CtOK Tryz.prog 13 (Vx.valC (fun h b => Vx.someInt h 0 b) [.s 16 166320857329861288258008211337866667372, .i .u8 26, .s 1 97] (.ag [.i .i64 1, .i .i64 0])) :=
  Vx.valC_ok (ARGS0 := #[.string (Vx.str 16 166320857329861288258008211337866667372), .int .u8 26, .string (Vx.str 1 97)]) (G := fun w => Vx.HoldsG w [(0, [.ii .i64])]) (fun he hr => Vx.someInt_holds he hr) (by kernel_rfl) (fun _ => .cons (by rw [Vx.Rv]) (.cons (by rw [Vx.Rv]) (.cons (by rw [Vx.Rv]) (.nil))))
    (fun w hw => Vx.closedV (Vx.run_ok Lib0.sp_ok 60) (by kernel_rfl) (by kernel_rfl) (fun _ => .cons (by rw [Vx.Rv]) (.cons (by rw [Vx.Rv]) (.cons (by rw [Vx.Rv]) (.nil)))) (by kernel_rfl) ran11 w hw)
theorem ran12 : Vx.run Lib0.sp 60 13 [.s 22 22135156640021100875115743420975538959967592836851240, .i .u8 26, .s 1 102] (Vx.startH [(0, [.ii .i64])] 2) 2 (fun v _ _ => Vx.sameV v (.ag [.i .i64 0, .i .i64 0])) = true := by kernel_rfl
theorem c12 : Vx.CtOK Tryz.prog 13 (Vx.valC (fun h b => Vx.someInt h 0 b) [.s 22 22135156640021100875115743420975538959967592836851240, .i .u8 26, .s 1 102] (.ag [.i .i64 0, .i .i64 0])) :=
  Vx.valC_ok (ARGS0 := #[.string (Vx.str 22 22135156640021100875115743420975538959967592836851240), .int .u8 26, .string (Vx.str 1 102)]) (G := fun w => Vx.HoldsG w [(0, [.ii .i64])]) (fun he hr => Vx.someInt_holds he hr) (by kernel_rfl) (fun _ => .cons (by rw [Vx.Rv]) (.cons (by rw [Vx.Rv]) (.cons (by rw [Vx.Rv]) (.nil))))
    (fun w hw => Vx.closedV (Vx.run_ok Lib0.sp_ok 60) (by kernel_rfl) (by kernel_rfl) (fun _ => .cons (by rw [Vx.Rv]) (.cons (by rw [Vx.Rv]) (.cons (by rw [Vx.Rv]) (.nil)))) (by kernel_rfl) ran12 w hw)

noncomputable def sp : Vx.Specs := fun g => match g with
  | 12 => some (Vx.orC (Vx.valC (fun h b => Vx.someInt h 0 b) [.s 21 86514765089778398338900299479924197495473574274412, .i .i64 11] (.b true)) (Vx.orC (Vx.valC (fun h b => Vx.someInt h 0 b) [.s 6 65082180313185, .i .i64 0] (.b true)) (Vx.orC (Vx.valC (fun h b => Vx.someInt h 0 b) [.s 19 1320110551296667437418511988716448190691176291, .i .i64 13] (.b true)) (Vx.orC (Vx.valC (fun h b => Vx.someInt h 0 b) [.s 6 65332381577826, .i .i64 0] (.b true)) (Vx.orC (Vx.valC (fun h b => Vx.someInt h 0 b) [.s 37 62228519480018683550184884051977609887951641800861348097098126049706884502943191253215351, .i .i64 27] (.b true)) (Vx.orC (Vx.valC (fun h b => Vx.someInt h 0 b) [.s 7 16728461501818226, .i .i64 0] (.b true)) (Vx.orC (Vx.valC (fun h b => Vx.someInt h 0 b) [.s 9 1095356605720389510500, .i .i64 0] (.b true)) (Vx.orC (Vx.valC (fun h b => Vx.someInt h 0 b) [.s 19 2798318905024329048735112166905077476677809510, .i .i64 14] (.b true)) (Vx.orC (Vx.valC (fun h b => Vx.someInt h 0 b) [.s 24 3068078289285181987732612115568453173224979757799494808934, .i .i64 16] (.b true)) (Vx.valC (fun h b => Vx.someInt h 0 b) [.s 27 51473812262327698422916270642063875074433099041975327738360853108, .i .i64 19] (.b true)))))))))))
  | 13 => some (Vx.orC (Vx.valC (fun h b => Vx.someInt h 0 b) [.s 16 166320857329861288258008211337866667372, .i .u8 26, .s 1 98] (.ag [.i .i64 (-1), .i .i64 0])) (Vx.orC (Vx.valC (fun h b => Vx.someInt h 0 b) [.s 16 166320857329861288258008211337866667372, .i .u8 26, .s 1 97] (.ag [.i .i64 1, .i .i64 0])) (Vx.valC (fun h b => Vx.someInt h 0 b) [.s 22 22135156640021100875115743420975538959967592836851240, .i .u8 26, .s 1 102] (.ag [.i .i64 0, .i .i64 0]))))
  | g => Lib0.sp g
theorem sp_ok : Vx.SpecOK Tryz.prog sp := by
  intro g C hC
  unfold sp at hC
  split at hC
  · cases hC; exact Vx.orC_ok c0 (Vx.orC_ok c1 (Vx.orC_ok c2 (Vx.orC_ok c3 (Vx.orC_ok c4 (Vx.orC_ok c5 (Vx.orC_ok c6 (Vx.orC_ok c7 (Vx.orC_ok c8 (c9)))))))))
  · cases hC; exact Vx.orC_ok c10 (Vx.orC_ok c11 (c12))
  · exact Lib0.sp_ok _ _ hC
end Go.Proofs.YtcjchampleghnaaGreatDoor.SCalls
