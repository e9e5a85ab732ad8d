/- Calls whose answers are known, new memory too: each by a closed run of its own, as a contract. No condition. -/
import Derived.Test.YtbmekbpgoakkbaaGreatDoorVxY
import Derived.Test.YtbmekbpgoakkbaaGreatDoorVxZ
set_option linter.all false
set_option maxRecDepth 100000
namespace Go.Proofs.YtbmekbpgoakkbaaGreatDoor.Pr
open Go Vx

noncomputable def o0_0 : List ObjL := [
  ⟨54, ⟨18, (some 108), true⟩, 18, [(.s 14 2463397432817095070752608972136808), (.i .i64 0), (.i .u8 51), (.i .u8 7), (.f .f64 0), (.s 0 0), (.i .i64 55), (.i .u8 0), (.f .f64 0), (.s 0 0), (.i .i64 0), (.i .u8 0), (.f .f64 0), (.s 0 0), (.i .i64 0), (.b true), (.b false), (.b true), (.s 8 7453010373643562868), (.i .i64 0), (.i .u8 51), (.i .u8 7), (.f .f64 0), (.s 0 0), (.i .i64 56), (.i .u8 0), (.f .f64 0), (.s 0 0), (.i .i64 0), (.i .u8 0), (.f .f64 0), (.s 0 0), (.i .i64 0), (.b true), (.b false), (.b true), (.s 7 28797744804815222), (.i .i64 0), (.i .u8 51), (.i .u8 7), (.f .f64 0), (.s 0 0), (.i .i64 57), (.i .u8 0), (.f .f64 0), (.s 0 0), (.i .i64 0), (.i .u8 0), (.f .f64 0), (.s 0 0), (.i .i64 0), (.b true), (.b false), (.b true)]⟩]
noncomputable def objs0 : List ObjL := o0_0
noncomputable def lit0 : AV := (.so 0 0 3 0)
noncomputable def ids0 : List Nat := [24]
theorem ran0 : run (fun _ => none) 60 44 [.s 16 134836028218954895143400936043344192079] (startH [] 1) 1 (fun v h _ => bc (sameT v (sh2 (fun j => ids0.getD j 0) lit0)) (sameOs objs0.length (fun j => ids0.getD j 0) h 1 ids0 objs0) false) = true := by kernel_rfl
theorem c0 : CtOK Tryz.prog 44 (memC (fun _ b => b) [.s 16 134836028218954895143400936043344192079] lit0 objs0) :=
  memC_ok (ARGS0 := #[.string (Vx.str 16 134836028218954895143400936043344192079)]) (G := fun w => HoldsG w []) (by kernel_rfl) (fun he hr => ⟨he, fun p hp => by cases hp⟩) (by kernel_rfl) (fun _ => .cons (by rw [Vx.Rv]) (.nil))
    (fun w hw => closedM (run_ok SpecOK.none 60) (by kernel_rfl) (by kernel_rfl) (by kernel_rfl) (fun _ => .cons (by rw [Vx.Rv]) (.nil)) ran0 w hw)

noncomputable def o1_0 : List ObjL := [
  ⟨36, ⟨18, (some 108), true⟩, 18, [(.s 5 521510350945), (.i .i64 0), (.i .u8 51), (.i .u8 7), (.f .f64 0), (.s 0 0), (.i .i64 58), (.i .u8 0), (.f .f64 0), (.s 0 0), (.i .i64 0), (.i .u8 0), (.f .f64 0), (.s 0 0), (.i .i64 0), (.b true), (.b false), (.b true), (.s 4 1819042147), (.i .i64 0), (.i .u8 51), (.i .u8 7), (.f .f64 0), (.s 0 0), (.i .i64 59), (.i .u8 0), (.f .f64 0), (.s 0 0), (.i .i64 0), (.i .u8 0), (.f .f64 0), (.s 0 0), (.i .i64 0), (.b true), (.b false), (.b true)]⟩]
noncomputable def objs1 : List ObjL := o1_0
noncomputable def lit1 : AV := (.so 0 0 2 0)
noncomputable def ids1 : List Nat := [18]
theorem ran1 : run (fun _ => none) 60 44 [.s 18 8836613945357428008117923315573181480072518] (startH [] 1) 1 (fun v h _ => bc (sameT v (sh2 (fun j => ids1.getD j 0) lit1)) (sameOs objs1.length (fun j => ids1.getD j 0) h 1 ids1 objs1) false) = true := by kernel_rfl
theorem c1 : CtOK Tryz.prog 44 (memC (fun _ b => b) [.s 18 8836613945357428008117923315573181480072518] lit1 objs1) :=
  memC_ok (ARGS0 := #[.string (Vx.str 18 8836613945357428008117923315573181480072518)]) (G := fun w => HoldsG w []) (by kernel_rfl) (fun he hr => ⟨he, fun p hp => by cases hp⟩) (by kernel_rfl) (fun _ => .cons (by rw [Vx.Rv]) (.nil))
    (fun w hw => closedM (run_ok SpecOK.none 60) (by kernel_rfl) (by kernel_rfl) (by kernel_rfl) (fun _ => .cons (by rw [Vx.Rv]) (.nil)) ran1 w hw)

noncomputable def o2_0 : List ObjL := [
  ⟨18, ⟨18, (some 108), true⟩, 18, [(.s 4 1752397168), (.i .i64 0), (.i .u8 51), (.i .u8 7), (.f .f64 0), (.s 0 0), (.i .i64 60), (.i .u8 0), (.f .f64 0), (.s 0 0), (.i .i64 0), (.i .u8 0), (.f .f64 0), (.s 0 0), (.i .i64 0), (.b true), (.b false), (.b true)]⟩]
noncomputable def objs2 : List ObjL := o2_0
noncomputable def lit2 : AV := (.so 0 0 1 0)
noncomputable def ids2 : List Nat := [12]
theorem ran2 : run (fun _ => none) 60 44 [.s 15 526703235230292559153909927861449281] (startH [] 1) 1 (fun v h _ => bc (sameT v (sh2 (fun j => ids2.getD j 0) lit2)) (sameOs objs2.length (fun j => ids2.getD j 0) h 1 ids2 objs2) false) = true := by kernel_rfl
theorem c2 : CtOK Tryz.prog 44 (memC (fun _ b => b) [.s 15 526703235230292559153909927861449281] lit2 objs2) :=
  memC_ok (ARGS0 := #[.string (Vx.str 15 526703235230292559153909927861449281)]) (G := fun w => HoldsG w []) (by kernel_rfl) (fun he hr => ⟨he, fun p hp => by cases hp⟩) (by kernel_rfl) (fun _ => .cons (by rw [Vx.Rv]) (.nil))
    (fun w hw => closedM (run_ok SpecOK.none 60) (by kernel_rfl) (by kernel_rfl) (by kernel_rfl) (fun _ => .cons (by rw [Vx.Rv]) (.nil)) ran2 w hw)

noncomputable def o3_0 : List ObjL := [
  ⟨90, ⟨18, (some 108), true⟩, 18, [(.s 11 138343873104739033351614307), (.i .i64 0), (.i .u8 51), (.i .u8 8), (.f .f64 0), (.s 0 0), (.i .i64 15), (.i .u8 0), (.f .f64 0), (.s 0 0), (.i .i64 0), (.i .u8 0), (.f .f64 0), (.s 0 0), (.i .i64 0), (.b true), (.b false), (.b true), (.s 7 28797826140237417), (.i .i64 0), (.i .u8 51), (.i .u8 7), (.f .f64 0), (.s 0 0), (.i .i64 61), (.i .u8 0), (.f .f64 0), (.s 0 0), (.i .i64 0), (.i .u8 0), (.f .f64 0), (.s 0 0), (.i .i64 0), (.b true), (.b false), (.b true), (.s 5 435459550323), (.i .i64 0), (.i .u8 51), (.i .u8 7), (.f .f64 0), (.s 0 0), (.i .i64 62), (.i .u8 0), (.f .f64 0), (.s 0 0), (.i .i64 0), (.i .u8 0), (.f .f64 0), (.s 0 0), (.i .i64 0), (.b true), (.b false), (.b true), (.s 8 7453010373643562868), (.i .i64 0), (.i .u8 51), (.i .u8 7), (.f .f64 0), (.s 0 0), (.i .i64 63), (.i .u8 0), (.f .f64 0), (.s 0 0), (.i .i64 0), (.i .u8 0), (.f .f64 0), (.s 0 0), (.i .i64 0), (.b true), (.b false), (.b true), (.s 7 28797744804815222), (.i .i64 0), (.i .u8 51), (.i .u8 7), (.f .f64 0), (.s 0 0), (.i .i64 64), (.i .u8 0), (.f .f64 0), (.s 0 0), (.i .i64 0), (.i .u8 0), (.f .f64 0), (.s 0 0), (.i .i64 0), (.b true), (.b false), (.b true)]⟩]
noncomputable def objs3 : List ObjL := o3_0
noncomputable def lit3 : AV := (.so 0 0 5 0)
noncomputable def ids3 : List Nat := [36]
theorem ran3 : run (fun _ => none) 60 44 [.s 16 134836028218954895143400921797005309011] (startH [] 1) 1 (fun v h _ => bc (sameT v (sh2 (fun j => ids3.getD j 0) lit3)) (sameOs objs3.length (fun j => ids3.getD j 0) h 1 ids3 objs3) false) = true := by kernel_rfl
theorem c3 : CtOK Tryz.prog 44 (memC (fun _ b => b) [.s 16 134836028218954895143400921797005309011] lit3 objs3) :=
  memC_ok (ARGS0 := #[.string (Vx.str 16 134836028218954895143400921797005309011)]) (G := fun w => HoldsG w []) (by kernel_rfl) (fun he hr => ⟨he, fun p hp => by cases hp⟩) (by kernel_rfl) (fun _ => .cons (by rw [Vx.Rv]) (.nil))
    (fun w hw => closedM (run_ok SpecOK.none 60) (by kernel_rfl) (by kernel_rfl) (by kernel_rfl) (fun _ => .cons (by rw [Vx.Rv]) (.nil)) ran3 w hw)

noncomputable def o4_0 : List ObjL := [
  ⟨54, ⟨18, (some 108), true⟩, 18, [(.s 11 138343873104739033351614307), (.i .i64 0), (.i .u8 51), (.i .u8 7), (.f .f64 0), (.s 0 0), (.i .i64 20), (.i .u8 0), (.f .f64 0), (.s 0 0), (.i .i64 0), (.i .u8 0), (.f .f64 0), (.s 0 0), (.i .i64 0), (.b true), (.b false), (.b true), (.s 8 7453010373643562868), (.i .i64 0), (.i .u8 51), (.i .u8 7), (.f .f64 0), (.s 0 0), (.i .i64 65), (.i .u8 0), (.f .f64 0), (.s 0 0), (.i .i64 0), (.i .u8 0), (.f .f64 0), (.s 0 0), (.i .i64 0), (.b true), (.b false), (.b true), (.s 7 28797744804815222), (.i .i64 0), (.i .u8 51), (.i .u8 7), (.f .f64 0), (.s 0 0), (.i .i64 66), (.i .u8 0), (.f .f64 0), (.s 0 0), (.i .i64 0), (.i .u8 0), (.f .f64 0), (.s 0 0), (.i .i64 0), (.b true), (.b false), (.b true)]⟩]
noncomputable def objs4 : List ObjL := o4_0
noncomputable def lit4 : AV := (.so 0 0 3 0)
noncomputable def ids4 : List Nat := [24]
theorem ran4 : run (fun _ => none) 60 44 [.s 16 134836028218954895143400933852860740942] (startH [] 1) 1 (fun v h _ => bc (sameT v (sh2 (fun j => ids4.getD j 0) lit4)) (sameOs objs4.length (fun j => ids4.getD j 0) h 1 ids4 objs4) false) = true := by kernel_rfl
theorem c4 : CtOK Tryz.prog 44 (memC (fun _ b => b) [.s 16 134836028218954895143400933852860740942] lit4 objs4) :=
  memC_ok (ARGS0 := #[.string (Vx.str 16 134836028218954895143400933852860740942)]) (G := fun w => HoldsG w []) (by kernel_rfl) (fun he hr => ⟨he, fun p hp => by cases hp⟩) (by kernel_rfl) (fun _ => .cons (by rw [Vx.Rv]) (.nil))
    (fun w hw => closedM (run_ok SpecOK.none 60) (by kernel_rfl) (by kernel_rfl) (by kernel_rfl) (fun _ => .cons (by rw [Vx.Rv]) (.nil)) ran4 w hw)

noncomputable def o5_0 : List ObjL := [
  ⟨54, ⟨18, (some 108), true⟩, 18, [(.s 11 138343873104739033351614307), (.i .i64 0), (.i .u8 51), (.i .u8 7), (.f .f64 0), (.s 0 0), (.i .i64 21), (.i .u8 0), (.f .f64 0), (.s 0 0), (.i .i64 0), (.i .u8 0), (.f .f64 0), (.s 0 0), (.i .i64 0), (.b true), (.b false), (.b true), (.s 8 7453010373643562868), (.i .i64 0), (.i .u8 51), (.i .u8 7), (.f .f64 0), (.s 0 0), (.i .i64 67), (.i .u8 0), (.f .f64 0), (.s 0 0), (.i .i64 0), (.i .u8 0), (.f .f64 0), (.s 0 0), (.i .i64 0), (.b true), (.b false), (.b true), (.s 7 28797744804815222), (.i .i64 0), (.i .u8 51), (.i .u8 7), (.f .f64 0), (.s 0 0), (.i .i64 68), (.i .u8 0), (.f .f64 0), (.s 0 0), (.i .i64 0), (.i .u8 0), (.f .f64 0), (.s 0 0), (.i .i64 0), (.b true), (.b false), (.b true)]⟩]
noncomputable def objs5 : List ObjL := o5_0
noncomputable def lit5 : AV := (.so 0 0 3 0)
noncomputable def ids5 : List Nat := [24]
theorem ran5 : run (fun _ => none) 60 44 [.s 17 34518023224052453156710637936047264067394] (startH [] 1) 1 (fun v h _ => bc (sameT v (sh2 (fun j => ids5.getD j 0) lit5)) (sameOs objs5.length (fun j => ids5.getD j 0) h 1 ids5 objs5) false) = true := by kernel_rfl
theorem c5 : CtOK Tryz.prog 44 (memC (fun _ b => b) [.s 17 34518023224052453156710637936047264067394] lit5 objs5) :=
  memC_ok (ARGS0 := #[.string (Vx.str 17 34518023224052453156710637936047264067394)]) (G := fun w => HoldsG w []) (by kernel_rfl) (fun he hr => ⟨he, fun p hp => by cases hp⟩) (by kernel_rfl) (fun _ => .cons (by rw [Vx.Rv]) (.nil))
    (fun w hw => closedM (run_ok SpecOK.none 60) (by kernel_rfl) (by kernel_rfl) (by kernel_rfl) (fun _ => .cons (by rw [Vx.Rv]) (.nil)) ran5 w hw)

noncomputable def o6_0 : List ObjL := [
  ⟨54, ⟨18, (some 108), true⟩, 18, [(.s 11 138343873104739033351614307), (.i .i64 0), (.i .u8 51), (.i .u8 7), (.f .f64 0), (.s 0 0), (.i .i64 22), (.i .u8 0), (.f .f64 0), (.s 0 0), (.i .i64 0), (.i .u8 0), (.f .f64 0), (.s 0 0), (.i .i64 0), (.b true), (.b false), (.b true), (.s 8 7453010373643562868), (.i .i64 0), (.i .u8 51), (.i .u8 7), (.f .f64 0), (.s 0 0), (.i .i64 69), (.i .u8 0), (.f .f64 0), (.s 0 0), (.i .i64 0), (.i .u8 0), (.f .f64 0), (.s 0 0), (.i .i64 0), (.b true), (.b false), (.b true), (.s 7 28797744804815222), (.i .i64 0), (.i .u8 51), (.i .u8 7), (.f .f64 0), (.s 0 0), (.i .i64 70), (.i .u8 0), (.f .f64 0), (.s 0 0), (.i .i64 0), (.i .u8 0), (.f .f64 0), (.s 0 0), (.i .i64 0), (.b true), (.b false), (.b true)]⟩]
noncomputable def objs6 : List ObjL := o6_0
noncomputable def lit6 : AV := (.so 0 0 3 0)
noncomputable def ids6 : List Nat := [24]
theorem ran6 : run (fun _ => none) 60 44 [.s 16 134836028218954895143400927298740648275] (startH [] 1) 1 (fun v h _ => bc (sameT v (sh2 (fun j => ids6.getD j 0) lit6)) (sameOs objs6.length (fun j => ids6.getD j 0) h 1 ids6 objs6) false) = true := by kernel_rfl
theorem c6 : CtOK Tryz.prog 44 (memC (fun _ b => b) [.s 16 134836028218954895143400927298740648275] lit6 objs6) :=
  memC_ok (ARGS0 := #[.string (Vx.str 16 134836028218954895143400927298740648275)]) (G := fun w => HoldsG w []) (by kernel_rfl) (fun he hr => ⟨he, fun p hp => by cases hp⟩) (by kernel_rfl) (fun _ => .cons (by rw [Vx.Rv]) (.nil))
    (fun w hw => closedM (run_ok SpecOK.none 60) (by kernel_rfl) (by kernel_rfl) (by kernel_rfl) (fun _ => .cons (by rw [Vx.Rv]) (.nil)) ran6 w hw)

noncomputable def o7_0 : List ObjL := [
  ⟨72, ⟨18, (some 108), true⟩, 18, [(.s 11 138343873104739033351614307), (.i .i64 0), (.i .u8 51), (.i .u8 8), (.f .f64 0), (.s 0 0), (.i .i64 16), (.i .u8 0), (.f .f64 0), (.s 0 0), (.i .i64 0), (.i .u8 0), (.f .f64 0), (.s 0 0), (.i .i64 0), (.b true), (.b false), (.b true), (.s 4 1701667182), (.i .i64 0), (.i .u8 51), (.i .u8 4), (.f .f64 0), (.s 5 526703235230292559153909898031559237), (.i .i64 0), (.i .u8 0), (.f .f64 0), (.s 0 0), (.i .i64 0), (.i .u8 0), (.f .f64 0), (.s 0 0), (.i .i64 0), (.b true), (.b false), (.b true), (.s 7 28542640894207341), (.i .i64 0), (.i .u8 51), (.i .u8 4), (.f .f64 0), (.s 0 0), (.i .i64 0), (.i .u8 0), (.f .f64 0), (.s 0 0), (.i .i64 0), (.i .u8 0), (.f .f64 0), (.s 0 0), (.i .i64 0), (.b true), (.b false), (.b true), (.s 8 7453010373643562868), (.i .i64 0), (.i .u8 51), (.i .u8 7), (.f .f64 0), (.s 0 0), (.i .i64 71), (.i .u8 0), (.f .f64 0), (.s 0 0), (.i .i64 0), (.i .u8 0), (.f .f64 0), (.s 0 0), (.i .i64 0), (.b true), (.b false), (.b true)]⟩]
noncomputable def objs7 : List ObjL := o7_0
noncomputable def lit7 : AV := (.so 0 0 4 0)
noncomputable def ids7 : List Nat := [28]
theorem ran7 : run (fun _ => none) 60 44 [.s 15 526703235230292559153909898031559237] (startH [] 1) 1 (fun v h _ => bc (sameT v (sh2 (fun j => ids7.getD j 0) lit7)) (sameOs objs7.length (fun j => ids7.getD j 0) h 1 ids7 objs7) false) = true := by kernel_rfl
theorem c7 : CtOK Tryz.prog 44 (memC (fun _ b => b) [.s 15 526703235230292559153909898031559237] lit7 objs7) :=
  memC_ok (ARGS0 := #[.string (Vx.str 15 526703235230292559153909898031559237)]) (G := fun w => HoldsG w []) (by kernel_rfl) (fun he hr => ⟨he, fun p hp => by cases hp⟩) (by kernel_rfl) (fun _ => .cons (by rw [Vx.Rv]) (.nil))
    (fun w hw => closedM (run_ok SpecOK.none 60) (by kernel_rfl) (by kernel_rfl) (by kernel_rfl) (fun _ => .cons (by rw [Vx.Rv]) (.nil)) ran7 w hw)

noncomputable def o8_0 : List ObjL := [
  ⟨54, ⟨18, (some 108), true⟩, 18, [(.s 11 138343873104739033351614307), (.i .i64 0), (.i .u8 51), (.i .u8 8), (.f .f64 0), (.s 0 0), (.i .i64 17), (.i .u8 0), (.f .f64 0), (.s 0 0), (.i .i64 0), (.i .u8 0), (.f .f64 0), (.s 0 0), (.i .i64 0), (.b true), (.b false), (.b true), (.s 4 1701667182), (.i .i64 0), (.i .u8 51), (.i .u8 4), (.f .f64 0), (.s 9 2262173170011501570078188442576241700503583060), (.i .i64 0), (.i .u8 0), (.f .f64 0), (.s 0 0), (.i .i64 0), (.i .u8 0), (.f .f64 0), (.s 0 0), (.i .i64 0), (.b true), (.b false), (.b true), (.s 7 28542640894207341), (.i .i64 0), (.i .u8 51), (.i .u8 4), (.f .f64 0), (.s 0 0), (.i .i64 0), (.i .u8 0), (.f .f64 0), (.s 0 0), (.i .i64 0), (.i .u8 0), (.f .f64 0), (.s 0 0), (.i .i64 0), (.b true), (.b false), (.b true)]⟩]
noncomputable def objs8 : List ObjL := o8_0
noncomputable def lit8 : AV := (.so 0 0 3 0)
noncomputable def ids8 : List Nat := [18]
theorem ran8 : run (fun _ => none) 60 44 [.s 19 2262173170011501570078188442576241700503583060] (startH [] 1) 1 (fun v h _ => bc (sameT v (sh2 (fun j => ids8.getD j 0) lit8)) (sameOs objs8.length (fun j => ids8.getD j 0) h 1 ids8 objs8) false) = true := by kernel_rfl
theorem c8 : CtOK Tryz.prog 44 (memC (fun _ b => b) [.s 19 2262173170011501570078188442576241700503583060] lit8 objs8) :=
  memC_ok (ARGS0 := #[.string (Vx.str 19 2262173170011501570078188442576241700503583060)]) (G := fun w => HoldsG w []) (by kernel_rfl) (fun he hr => ⟨he, fun p hp => by cases hp⟩) (by kernel_rfl) (fun _ => .cons (by rw [Vx.Rv]) (.nil))
    (fun w hw => closedM (run_ok SpecOK.none 60) (by kernel_rfl) (by kernel_rfl) (by kernel_rfl) (fun _ => .cons (by rw [Vx.Rv]) (.nil)) ran8 w hw)

noncomputable def o9_0 : List ObjL := [
  ⟨54, ⟨18, (some 108), true⟩, 18, [(.s 11 138343873104739033351614307), (.i .i64 0), (.i .u8 51), (.i .u8 8), (.f .f64 0), (.s 0 0), (.i .i64 18), (.i .u8 0), (.f .f64 0), (.s 0 0), (.i .i64 0), (.i .u8 0), (.f .f64 0), (.s 0 0), (.i .i64 0), (.b true), (.b false), (.b true), (.s 4 1701667182), (.i .i64 0), (.i .u8 51), (.i .u8 4), (.f .f64 0), (.s 10 579116331522944401940016241299517875328765550930), (.i .i64 0), (.i .u8 0), (.f .f64 0), (.s 0 0), (.i .i64 0), (.i .u8 0), (.f .f64 0), (.s 0 0), (.i .i64 0), (.b true), (.b false), (.b true), (.s 7 28542640894207341), (.i .i64 0), (.i .u8 51), (.i .u8 4), (.f .f64 0), (.s 0 0), (.i .i64 0), (.i .u8 0), (.f .f64 0), (.s 0 0), (.i .i64 0), (.i .u8 0), (.f .f64 0), (.s 0 0), (.i .i64 0), (.b true), (.b false), (.b true)]⟩]
noncomputable def objs9 : List ObjL := o9_0
noncomputable def lit9 : AV := (.so 0 0 3 0)
noncomputable def ids9 : List Nat := [18]
theorem ran9 : run (fun _ => none) 60 44 [.s 20 579116331522944401940016241299517875328765550930] (startH [] 1) 1 (fun v h _ => bc (sameT v (sh2 (fun j => ids9.getD j 0) lit9)) (sameOs objs9.length (fun j => ids9.getD j 0) h 1 ids9 objs9) false) = true := by kernel_rfl
theorem c9 : CtOK Tryz.prog 44 (memC (fun _ b => b) [.s 20 579116331522944401940016241299517875328765550930] lit9 objs9) :=
  memC_ok (ARGS0 := #[.string (Vx.str 20 579116331522944401940016241299517875328765550930)]) (G := fun w => HoldsG w []) (by kernel_rfl) (fun he hr => ⟨he, fun p hp => by cases hp⟩) (by kernel_rfl) (fun _ => .cons (by rw [Vx.Rv]) (.nil))
    (fun w hw => closedM (run_ok SpecOK.none 60) (by kernel_rfl) (by kernel_rfl) (by kernel_rfl) (fun _ => .cons (by rw [Vx.Rv]) (.nil)) ran9 w hw)

noncomputable def o10_0 : List ObjL := [
  ⟨54, ⟨18, (some 108), true⟩, 18, [(.s 11 138343873104739033351614307), (.i .i64 0), (.i .u8 51), (.i .u8 8), (.f .f64 0), (.s 0 0), (.i .i64 19), (.i .u8 0), (.f .f64 0), (.s 0 0), (.i .i64 0), (.i .u8 0), (.f .f64 0), (.s 0 0), (.i .i64 0), (.b true), (.b false), (.b true), (.s 4 1701667182), (.i .i64 0), (.i .u8 51), (.i .u8 4), (.f .f64 0), (.s 14 2487285704470540079958648710090273815104165063456807347538), (.i .i64 0), (.i .u8 0), (.f .f64 0), (.s 0 0), (.i .i64 0), (.i .u8 0), (.f .f64 0), (.s 0 0), (.i .i64 0), (.b true), (.b false), (.b true), (.s 7 28542640894207341), (.i .i64 0), (.i .u8 51), (.i .u8 4), (.f .f64 0), (.s 0 0), (.i .i64 0), (.i .u8 0), (.f .f64 0), (.s 0 0), (.i .i64 0), (.i .u8 0), (.f .f64 0), (.s 0 0), (.i .i64 0), (.b true), (.b false), (.b true)]⟩]
noncomputable def objs10 : List ObjL := o10_0
noncomputable def lit10 : AV := (.so 0 0 3 0)
noncomputable def ids10 : List Nat := [18]
theorem ran10 : run (fun _ => none) 60 44 [.s 24 2487285704470540079958648710090273815104165063456807347538] (startH [] 1) 1 (fun v h _ => bc (sameT v (sh2 (fun j => ids10.getD j 0) lit10)) (sameOs objs10.length (fun j => ids10.getD j 0) h 1 ids10 objs10) false) = true := by kernel_rfl
theorem c10 : CtOK Tryz.prog 44 (memC (fun _ b => b) [.s 24 2487285704470540079958648710090273815104165063456807347538] lit10 objs10) :=
  memC_ok (ARGS0 := #[.string (Vx.str 24 2487285704470540079958648710090273815104165063456807347538)]) (G := fun w => HoldsG w []) (by kernel_rfl) (fun he hr => ⟨he, fun p hp => by cases hp⟩) (by kernel_rfl) (fun _ => .cons (by rw [Vx.Rv]) (.nil))
    (fun w hw => closedM (run_ok SpecOK.none 60) (by kernel_rfl) (by kernel_rfl) (by kernel_rfl) (fun _ => .cons (by rw [Vx.Rv]) (.nil)) ran10 w hw)

noncomputable def o11_0 : List ObjL := [
  ⟨288, ⟨18, (some 108), true⟩, 18, [(.s 6 121390429860705), (.i .i64 0), (.i .u8 51), (.i .u8 7), (.f .f64 0), (.s 0 0), (.i .i64 24), (.i .u8 0), (.f .f64 0), (.s 0 0), (.i .i64 0), (.i .u8 0), (.f .f64 0), (.s 0 0), (.i .i64 0), (.b true), (.b false), (.b true), (.s 6 111550524650083), (.i .i64 0), (.i .u8 51), (.i .u8 7), (.f .f64 0), (.s 0 0), (.i .i64 25), (.i .u8 0), (.f .f64 0), (.s 0 0), (.i .i64 0), (.i .u8 0), (.f .f64 0), (.s 0 0), (.i .i64 0), (.b true), (.b false), (.b true), (.s 14 2463397432817095070742675148137828), (.i .i64 0), (.i .u8 51), (.i .u8 7), (.f .f64 0), (.s 0 0), (.i .i64 26), (.i .u8 0), (.f .f64 0), (.s 0 0), (.i .i64 0), (.i .u8 0), (.f .f64 0), (.s 0 0), (.i .i64 0), (.b true), (.b false), (.b true), (.s 6 111576361562726), (.i .i64 0), (.i .u8 51), (.i .u8 7), (.f .f64 0), (.s 0 0), (.i .i64 27), (.i .u8 0), (.f .f64 0), (.s 0 0), (.i .i64 0), (.i .u8 0), (.f .f64 0), (.s 0 0), (.i .i64 0), (.b true), (.b false), (.b true), (.s 24 2805947119396938920427194473873559009489280880887284917607), (.i .i64 0), (.i .u8 51), (.i .u8 7), (.f .f64 0), (.s 0 0), (.i .i64 28), (.i .u8 0), (.f .f64 0), (.s 0 0), (.i .i64 0), (.i .u8 0), (.f .f64 0), (.s 0 0), (.i .i64 0), (.b true), (.b false), (.b true), (.s 19 2573421258830701972015807444801943604642997607), (.i .i64 0), (.i .u8 51), (.i .u8 7), (.f .f64 0), (.s 0 0), (.i .i64 29), (.i .u8 0), (.f .f64 0), (.s 0 0), (.i .i64 0), (.i .u8 0), (.f .f64 0), (.s 0 0), (.i .i64 0), (.b true), (.b false), (.b true), (.s 21 168691743253275916479622775680962576023838596031847), (.i .i64 0), (.i .u8 51), (.i .u8 7), (.f .f64 0), (.s 0 0), (.i .i64 30), (.i .u8 0), (.f .f64 0), (.s 0 0), (.i .i64 0), (.i .u8 0), (.f .f64 0), (.s 0 0), (.i .i64 0), (.b true), (.b false), (.b true), (.s 14 2075096198370335216509268027270503), (.i .i64 0), (.i .u8 51), (.i .u8 7), (.f .f64 0), (.s 0 0), (.i .i64 31), (.i .u8 0), (.f .f64 0), (.s 0 0), (.i .i64 0), (.i .u8 0), (.f .f64 0), (.s 0 0), (.i .i64 0), (.b true), (.b false), (.b true), (.s 2 29545), (.i .i64 0), (.i .u8 51), (.i .u8 7), (.f .f64 0), (.s 0 0), (.i .i64 32), (.i .u8 0), (.f .f64 0), (.s 0 0), (.i .i64 0), (.i .u8 0), (.f .f64 0), (.s 0 0), (.i .i64 0), (.b true), (.b false), (.b true), (.s 12 31389014717615377969513329513), (.i .i64 0), (.i .u8 51), (.i .u8 7), (.f .f64 0), (.s 0 0), (.i .i64 33), (.i .u8 0), (.f .f64 0), (.s 0 0), (.i .i64 0), (.i .u8 0), (.f .f64 0), (.s 0 0), (.i .i64 0), (.b true), (.b false), (.b true), (.s 8 7954898935897027433), (.i .i64 0), (.i .u8 51), (.i .u8 7), (.f .f64 0), (.s 0 0), (.i .i64 34), (.i .u8 0), (.f .f64 0), (.s 0 0), (.i .i64 0), (.i .u8 0), (.f .f64 0), (.s 0 0), (.i .i64 0), (.b true), (.b false), (.b true), (.s 8 7234307542008165225), (.i .i64 0), (.i .u8 51), (.i .u8 7), (.f .f64 0), (.s 0 0), (.i .i64 35), (.i .u8 0), (.f .f64 0), (.s 0 0), (.i .i64 0), (.i .u8 0), (.f .f64 0), (.s 0 0), (.i .i64 0), (.b true), (.b false), (.b true), (.s 4 1937335659), (.i .i64 0), (.i .u8 51), (.i .u8 7), (.f .f64 0), (.s 0 0), (.i .i64 36), (.i .u8 0), (.f .f64 0), (.s 0 0), (.i .i64 0), (.i .u8 0), (.f .f64 0), (.s 0 0), (.i .i64 0), (.b true), (.b false), (.b true), (.s 17 39279265759193974485341313937393999770224), (.i .i64 0), (.i .u8 51), (.i .u8 7), (.f .f64 0), (.s 0 0), (.i .i64 37), (.i .u8 0), (.f .f64 0), (.s 0 0), (.i .i64 0), (.i .u8 0), (.f .f64 0), (.s 0 0), (.i .i64 0), (.b true), (.b false), (.b true), (.s 4 1818322291), (.i .i64 0), (.i .u8 51), (.i .u8 7), (.f .f64 0), (.s 0 0), (.i .i64 38), (.i .u8 0), (.f .f64 0), (.s 0 0), (.i .i64 0), (.i .u8 0), (.f .f64 0), (.s 0 0), (.i .i64 0), (.b true), (.b false), (.b true), (.s 14 2075096198370335216509268027270515), (.i .i64 0), (.i .u8 51), (.i .u8 7), (.f .f64 0), (.s 0 0), (.i .i64 39), (.i .u8 0), (.f .f64 0), (.s 0 0), (.i .i64 0), (.i .u8 0), (.f .f64 0), (.s 0 0), (.i .i64 0), (.b true), (.b false), (.b true)]⟩]
noncomputable def objs11 : List ObjL := o11_0
noncomputable def lit11 : AV := (.so 0 0 16 0)
noncomputable def ids11 : List Nat := [104]
theorem ran11 : run (fun _ => none) 60 44 [.s 6 127970252055119] (startH [] 1) 1 (fun v h _ => bc (sameT v (sh2 (fun j => ids11.getD j 0) lit11)) (sameOs objs11.length (fun j => ids11.getD j 0) h 1 ids11 objs11) false) = true := by kernel_rfl
theorem c11 : CtOK Tryz.prog 44 (memC (fun _ b => b) [.s 6 127970252055119] lit11 objs11) :=
  memC_ok (ARGS0 := #[.string (Vx.str 6 127970252055119)]) (G := fun w => HoldsG w []) (by kernel_rfl) (fun he hr => ⟨he, fun p hp => by cases hp⟩) (by kernel_rfl) (fun _ => .cons (by rw [Vx.Rv]) (.nil))
    (fun w hw => closedM (run_ok SpecOK.none 60) (by kernel_rfl) (by kernel_rfl) (by kernel_rfl) (fun _ => .cons (by rw [Vx.Rv]) (.nil)) ran11 w hw)

noncomputable def o12_0 : List ObjL := [
  ⟨234, ⟨18, (some 108), true⟩, 18, [(.s 5 521510350945), (.i .i64 0), (.i .u8 51), (.i .u8 7), (.f .f64 0), (.s 0 0), (.i .i64 40), (.i .u8 0), (.f .f64 0), (.s 0 0), (.i .i64 0), (.i .u8 0), (.f .f64 0), (.s 0 0), (.i .i64 0), (.b true), (.b false), (.b true), (.s 9 2146989072776816389987), (.i .i64 0), (.i .u8 51), (.i .u8 7), (.f .f64 0), (.s 0 0), (.i .i64 41), (.i .u8 0), (.f .f64 0), (.s 0 0), (.i .i64 0), (.i .u8 0), (.f .f64 0), (.s 0 0), (.i .i64 0), (.b true), (.b false), (.b true), (.s 14 2463397432817095070742675148137828), (.i .i64 0), (.i .u8 51), (.i .u8 7), (.f .f64 0), (.s 0 0), (.i .i64 42), (.i .u8 0), (.f .f64 0), (.s 0 0), (.i .i64 0), (.i .u8 0), (.f .f64 0), (.s 0 0), (.i .i64 0), (.b true), (.b false), (.b true), (.s 14 2463397432817095070742700851225956), (.i .i64 0), (.i .u8 51), (.i .u8 7), (.f .f64 0), (.s 0 0), (.i .i64 43), (.i .u8 0), (.f .f64 0), (.s 0 0), (.i .i64 0), (.i .u8 0), (.f .f64 0), (.s 0 0), (.i .i64 0), (.b true), (.b false), (.b true), (.s 3 7628135), (.i .i64 0), (.i .u8 51), (.i .u8 7), (.f .f64 0), (.s 0 0), (.i .i64 44), (.i .u8 0), (.f .f64 0), (.s 0 0), (.i .i64 0), (.i .u8 0), (.f .f64 0), (.s 0 0), (.i .i64 0), (.b true), (.b false), (.b true), (.s 24 2805947119396938920427194473873559009489280880887284917607), (.i .i64 0), (.i .u8 51), (.i .u8 7), (.f .f64 0), (.s 0 0), (.i .i64 45), (.i .u8 0), (.f .f64 0), (.s 0 0), (.i .i64 0), (.i .u8 0), (.f .f64 0), (.s 0 0), (.i .i64 0), (.b true), (.b false), (.b true), (.s 14 2075096198370335216509268027270503), (.i .i64 0), (.i .u8 51), (.i .u8 7), (.f .f64 0), (.s 0 0), (.i .i64 46), (.i .u8 0), (.f .f64 0), (.s 0 0), (.i .i64 0), (.i .u8 0), (.f .f64 0), (.s 0 0), (.i .i64 0), (.b true), (.b false), (.b true), (.s 3 7561576), (.i .i64 0), (.i .u8 51), (.i .u8 7), (.f .f64 0), (.s 0 0), (.i .i64 47), (.i .u8 0), (.f .f64 0), (.s 0 0), (.i .i64 0), (.i .u8 0), (.f .f64 0), (.s 0 0), (.i .i64 0), (.b true), (.b false), (.b true), (.s 12 31389014717615377969513329513), (.i .i64 0), (.i .u8 51), (.i .u8 7), (.f .f64 0), (.s 0 0), (.i .i64 48), (.i .u8 0), (.f .f64 0), (.s 0 0), (.i .i64 0), (.i .u8 0), (.f .f64 0), (.s 0 0), (.i .i64 0), (.b true), (.b false), (.b true), (.s 7 32503098285913967), (.i .i64 0), (.i .u8 51), (.i .u8 7), (.f .f64 0), (.s 0 0), (.i .i64 49), (.i .u8 0), (.f .f64 0), (.s 0 0), (.i .i64 0), (.i .u8 0), (.f .f64 0), (.s 0 0), (.i .i64 0), (.b true), (.b false), (.b true), (.s 17 39279265759193974485341313937393999770224), (.i .i64 0), (.i .u8 51), (.i .u8 7), (.f .f64 0), (.s 0 0), (.i .i64 50), (.i .u8 0), (.f .f64 0), (.s 0 0), (.i .i64 0), (.i .u8 0), (.f .f64 0), (.s 0 0), (.i .i64 0), (.b true), (.b false), (.b true), (.s 3 7628147), (.i .i64 0), (.i .u8 51), (.i .u8 7), (.f .f64 0), (.s 0 0), (.i .i64 51), (.i .u8 0), (.f .f64 0), (.s 0 0), (.i .i64 0), (.i .u8 0), (.f .f64 0), (.s 0 0), (.i .i64 0), (.b true), (.b false), (.b true), (.s 14 2075096198370335216509268027270515), (.i .i64 0), (.i .u8 51), (.i .u8 7), (.f .f64 0), (.s 0 0), (.i .i64 52), (.i .u8 0), (.f .f64 0), (.s 0 0), (.i .i64 0), (.i .u8 0), (.f .f64 0), (.s 0 0), (.i .i64 0), (.b true), (.b false), (.b true)]⟩]
noncomputable def objs12 : List ObjL := o12_0
noncomputable def lit12 : AV := (.so 0 0 13 0)
noncomputable def ids12 : List Nat := [84]
theorem ran12 : run (fun _ => none) 60 44 [.s 7 32760384559932754] (startH [] 1) 1 (fun v h _ => bc (sameT v (sh2 (fun j => ids12.getD j 0) lit12)) (sameOs objs12.length (fun j => ids12.getD j 0) h 1 ids12 objs12) false) = true := by kernel_rfl
theorem c12 : CtOK Tryz.prog 44 (memC (fun _ b => b) [.s 7 32760384559932754] lit12 objs12) :=
  memC_ok (ARGS0 := #[.string (Vx.str 7 32760384559932754)]) (G := fun w => HoldsG w []) (by kernel_rfl) (fun he hr => ⟨he, fun p hp => by cases hp⟩) (by kernel_rfl) (fun _ => .cons (by rw [Vx.Rv]) (.nil))
    (fun w hw => closedM (run_ok SpecOK.none 60) (by kernel_rfl) (by kernel_rfl) (by kernel_rfl) (fun _ => .cons (by rw [Vx.Rv]) (.nil)) ran12 w hw)

noncomputable def o13_0 : List ObjL := [
  ⟨18, ⟨18, (some 108), true⟩, 18, [(.s 7 34165616353047401), (.i .i64 0), (.i .u8 51), (.i .u8 7), (.f .f64 0), (.s 0 0), (.i .i64 54), (.i .u8 0), (.f .f64 0), (.s 0 0), (.i .i64 0), (.i .u8 0), (.f .f64 0), (.s 0 0), (.i .i64 0), (.b true), (.b false), (.b true)]⟩]
noncomputable def objs13 : List ObjL := o13_0
noncomputable def lit13 : AV := (.so 0 0 1 0)
noncomputable def ids13 : List Nat := [14]
theorem ran13 : run (fun _ => none) 60 44 [.s 5 521325933121] (startH [] 1) 1 (fun v h _ => bc (sameT v (sh2 (fun j => ids13.getD j 0) lit13)) (sameOs objs13.length (fun j => ids13.getD j 0) h 1 ids13 objs13) false) = true := by kernel_rfl
theorem c13 : CtOK Tryz.prog 44 (memC (fun _ b => b) [.s 5 521325933121] lit13 objs13) :=
  memC_ok (ARGS0 := #[.string (Vx.str 5 521325933121)]) (G := fun w => HoldsG w []) (by kernel_rfl) (fun he hr => ⟨he, fun p hp => by cases hp⟩) (by kernel_rfl) (fun _ => .cons (by rw [Vx.Rv]) (.nil))
    (fun w hw => closedM (run_ok SpecOK.none 60) (by kernel_rfl) (by kernel_rfl) (by kernel_rfl) (fun _ => .cons (by rw [Vx.Rv]) (.nil)) ran13 w hw)

noncomputable def o14_0 : List ObjL := [
  ⟨18, ⟨18, (some 108), true⟩, 18, [(.s 9 1870931063228178261362), (.i .i64 0), (.i .u8 51), (.i .u8 7), (.f .f64 0), (.s 0 0), (.i .i64 53), (.i .u8 0), (.f .f64 0), (.s 0 0), (.i .i64 0), (.i .u8 0), (.f .f64 0), (.s 0 0), (.i .i64 0), (.b true), (.b false), (.b true)]⟩]
noncomputable def objs14 : List ObjL := o14_0
noncomputable def lit14 : AV := (.so 0 0 1 0)
noncomputable def ids14 : List Nat := [12]
theorem ran14 : run (fun _ => none) 60 44 [.s 5 521711612496] (startH [] 1) 1 (fun v h _ => bc (sameT v (sh2 (fun j => ids14.getD j 0) lit14)) (sameOs objs14.length (fun j => ids14.getD j 0) h 1 ids14 objs14) false) = true := by kernel_rfl
theorem c14 : CtOK Tryz.prog 44 (memC (fun _ b => b) [.s 5 521711612496] lit14 objs14) :=
  memC_ok (ARGS0 := #[.string (Vx.str 5 521711612496)]) (G := fun w => HoldsG w []) (by kernel_rfl) (fun he hr => ⟨he, fun p hp => by cases hp⟩) (by kernel_rfl) (fun _ => .cons (by rw [Vx.Rv]) (.nil))
    (fun w hw => closedM (run_ok SpecOK.none 60) (by kernel_rfl) (by kernel_rfl) (by kernel_rfl) (fun _ => .cons (by rw [Vx.Rv]) (.nil)) ran14 w hw)

noncomputable def o15_0 : List ObjL := [
  ⟨18, ⟨18, (some 108), true⟩, 18, [(.s 9 1871225788471138284144), (.i .i64 0), (.i .u8 51), (.i .u8 6), (.f .f64 0), (.s 0 0), (.i .i64 3), (.i .u8 0), (.f .f64 0), (.s 0 0), (.i .i64 0), (.i .u8 0), (.f .f64 0), (.s 0 0), (.i .i64 0), (.b false), (.b false), (.b false)]⟩]
noncomputable def objs15 : List ObjL := o15_0
noncomputable def lit15 : AV := (.so 0 0 1 0)
noncomputable def ids15 : List Nat := [12]
theorem ran15 : run (fun _ => none) 60 44 [.s 6 113723913172051] (startH [] 1) 1 (fun v h _ => bc (sameT v (sh2 (fun j => ids15.getD j 0) lit15)) (sameOs objs15.length (fun j => ids15.getD j 0) h 1 ids15 objs15) false) = true := by kernel_rfl
theorem c15 : CtOK Tryz.prog 44 (memC (fun _ b => b) [.s 6 113723913172051] lit15 objs15) :=
  memC_ok (ARGS0 := #[.string (Vx.str 6 113723913172051)]) (G := fun w => HoldsG w []) (by kernel_rfl) (fun he hr => ⟨he, fun p hp => by cases hp⟩) (by kernel_rfl) (fun _ => .cons (by rw [Vx.Rv]) (.nil))
    (fun w hw => closedM (run_ok SpecOK.none 60) (by kernel_rfl) (by kernel_rfl) (by kernel_rfl) (fun _ => .cons (by rw [Vx.Rv]) (.nil)) ran15 w hw)

noncomputable def o16_0 : List ObjL := [
  ⟨18, ⟨18, (some 108), true⟩, 18, [(.s 9 1871225788471138284144), (.i .i64 0), (.i .u8 51), (.i .u8 6), (.f .f64 0), (.s 0 0), (.i .i64 7), (.i .u8 0), (.f .f64 0), (.s 0 0), (.i .i64 0), (.i .u8 0), (.f .f64 0), (.s 0 0), (.i .i64 0), (.b false), (.b false), (.b false)]⟩]
noncomputable def objs16 : List ObjL := o16_0
noncomputable def lit16 : AV := (.so 0 0 1 0)
noncomputable def ids16 : List Nat := [12]
theorem ran16 : run (fun _ => none) 60 44 [.s 5 491496043077] (startH [] 1) 1 (fun v h _ => bc (sameT v (sh2 (fun j => ids16.getD j 0) lit16)) (sameOs objs16.length (fun j => ids16.getD j 0) h 1 ids16 objs16) false) = true := by kernel_rfl
theorem c16 : CtOK Tryz.prog 44 (memC (fun _ b => b) [.s 5 491496043077] lit16 objs16) :=
  memC_ok (ARGS0 := #[.string (Vx.str 5 491496043077)]) (G := fun w => HoldsG w []) (by kernel_rfl) (fun he hr => ⟨he, fun p hp => by cases hp⟩) (by kernel_rfl) (fun _ => .cons (by rw [Vx.Rv]) (.nil))
    (fun w hw => closedM (run_ok SpecOK.none 60) (by kernel_rfl) (by kernel_rfl) (by kernel_rfl) (fun _ => .cons (by rw [Vx.Rv]) (.nil)) ran16 w hw)

noncomputable def o17_0 : List ObjL := [
  ⟨18, ⟨18, (some 108), true⟩, 18, [(.s 9 1871225788471138284144), (.i .i64 0), (.i .u8 51), (.i .u8 6), (.f .f64 0), (.s 0 0), (.i .i64 8), (.i .u8 0), (.f .f64 0), (.s 0 0), (.i .i64 0), (.i .u8 0), (.f .f64 0), (.s 0 0), (.i .i64 0), (.b false), (.b false), (.b false)]⟩]
noncomputable def objs17 : List ObjL := o17_0
noncomputable def lit17 : AV := (.so 0 0 1 0)
noncomputable def ids17 : List Nat := [12]
theorem ran17 : run (fun _ => none) 60 44 [.s 9 2110959431130824079700] (startH [] 1) 1 (fun v h _ => bc (sameT v (sh2 (fun j => ids17.getD j 0) lit17)) (sameOs objs17.length (fun j => ids17.getD j 0) h 1 ids17 objs17) false) = true := by kernel_rfl
theorem c17 : CtOK Tryz.prog 44 (memC (fun _ b => b) [.s 9 2110959431130824079700] lit17 objs17) :=
  memC_ok (ARGS0 := #[.string (Vx.str 9 2110959431130824079700)]) (G := fun w => HoldsG w []) (by kernel_rfl) (fun he hr => ⟨he, fun p hp => by cases hp⟩) (by kernel_rfl) (fun _ => .cons (by rw [Vx.Rv]) (.nil))
    (fun w hw => closedM (run_ok SpecOK.none 60) (by kernel_rfl) (by kernel_rfl) (by kernel_rfl) (fun _ => .cons (by rw [Vx.Rv]) (.nil)) ran17 w hw)

noncomputable def o18_0 : List ObjL := [
  ⟨18, ⟨18, (some 108), true⟩, 18, [(.s 9 1871225788471138284144), (.i .i64 0), (.i .u8 51), (.i .u8 6), (.f .f64 0), (.s 0 0), (.i .i64 9), (.i .u8 0), (.f .f64 0), (.s 0 0), (.i .i64 0), (.i .u8 0), (.f .f64 0), (.s 0 0), (.i .i64 0), (.b false), (.b false), (.b false)]⟩]
noncomputable def objs18 : List ObjL := o18_0
noncomputable def lit18 : AV := (.so 0 0 1 0)
noncomputable def ids18 : List Nat := [12]
theorem ran18 : run (fun _ => none) 60 44 [.s 10 540405614369490812690770] (startH [] 1) 1 (fun v h _ => bc (sameT v (sh2 (fun j => ids18.getD j 0) lit18)) (sameOs objs18.length (fun j => ids18.getD j 0) h 1 ids18 objs18) false) = true := by kernel_rfl
theorem c18 : CtOK Tryz.prog 44 (memC (fun _ b => b) [.s 10 540405614369490812690770] lit18 objs18) :=
  memC_ok (ARGS0 := #[.string (Vx.str 10 540405614369490812690770)]) (G := fun w => HoldsG w []) (by kernel_rfl) (fun he hr => ⟨he, fun p hp => by cases hp⟩) (by kernel_rfl) (fun _ => .cons (by rw [Vx.Rv]) (.nil))
    (fun w hw => closedM (run_ok SpecOK.none 60) (by kernel_rfl) (by kernel_rfl) (by kernel_rfl) (fun _ => .cons (by rw [Vx.Rv]) (.nil)) ran18 w hw)

noncomputable def o19_0 : List ObjL := [
  ⟨18, ⟨18, (some 108), true⟩, 18, [(.s 9 1871225788471138284144), (.i .i64 0), (.i .u8 51), (.i .u8 6), (.f .f64 0), (.s 0 0), (.i .i64 10), (.i .u8 0), (.f .f64 0), (.s 0 0), (.i .i64 0), (.i .u8 0), (.f .f64 0), (.s 0 0), (.i .i64 0), (.b false), (.b false), (.b false)]⟩]
noncomputable def objs19 : List ObjL := o19_0
noncomputable def lit19 : AV := (.so 0 0 1 0)
noncomputable def ids19 : List Nat := [12]
theorem ran19 : run (fun _ => none) 60 44 [.s 14 2321024440291750412453479946020178] (startH [] 1) 1 (fun v h _ => bc (sameT v (sh2 (fun j => ids19.getD j 0) lit19)) (sameOs objs19.length (fun j => ids19.getD j 0) h 1 ids19 objs19) false) = true := by kernel_rfl
theorem c19 : CtOK Tryz.prog 44 (memC (fun _ b => b) [.s 14 2321024440291750412453479946020178] lit19 objs19) :=
  memC_ok (ARGS0 := #[.string (Vx.str 14 2321024440291750412453479946020178)]) (G := fun w => HoldsG w []) (by kernel_rfl) (fun he hr => ⟨he, fun p hp => by cases hp⟩) (by kernel_rfl) (fun _ => .cons (by rw [Vx.Rv]) (.nil))
    (fun w hw => closedM (run_ok SpecOK.none 60) (by kernel_rfl) (by kernel_rfl) (by kernel_rfl) (fun _ => .cons (by rw [Vx.Rv]) (.nil)) ran19 w hw)

noncomputable def o20_0 : List ObjL := [
  ⟨18, ⟨18, (some 108), true⟩, 18, [(.s 9 1871225788471138284144), (.i .i64 0), (.i .u8 51), (.i .u8 6), (.f .f64 0), (.s 0 0), (.i .i64 4), (.i .u8 0), (.f .f64 0), (.s 0 0), (.i .i64 0), (.i .u8 0), (.f .f64 0), (.s 0 0), (.i .i64 0), (.b false), (.b false), (.b false)]⟩]
noncomputable def objs20 : List ObjL := o20_0
noncomputable def lit20 : AV := (.so 0 0 1 0)
noncomputable def ids20 : List Nat := [12]
theorem ran20 : run (fun _ => none) 60 44 [.s 6 125779768603982] (startH [] 1) 1 (fun v h _ => bc (sameT v (sh2 (fun j => ids20.getD j 0) lit20)) (sameOs objs20.length (fun j => ids20.getD j 0) h 1 ids20 objs20) false) = true := by kernel_rfl
theorem c20 : CtOK Tryz.prog 44 (memC (fun _ b => b) [.s 6 125779768603982] lit20 objs20) :=
  memC_ok (ARGS0 := #[.string (Vx.str 6 125779768603982)]) (G := fun w => HoldsG w []) (by kernel_rfl) (fun he hr => ⟨he, fun p hp => by cases hp⟩) (by kernel_rfl) (fun _ => .cons (by rw [Vx.Rv]) (.nil))
    (fun w hw => closedM (run_ok SpecOK.none 60) (by kernel_rfl) (by kernel_rfl) (by kernel_rfl) (fun _ => .cons (by rw [Vx.Rv]) (.nil)) ran20 w hw)

noncomputable def o21_0 : List ObjL := [
  ⟨18, ⟨18, (some 108), true⟩, 18, [(.s 9 1871225788471138284144), (.i .i64 0), (.i .u8 51), (.i .u8 6), (.f .f64 0), (.s 0 0), (.i .i64 5), (.i .u8 0), (.f .f64 0), (.s 0 0), (.i .i64 0), (.i .u8 0), (.f .f64 0), (.s 0 0), (.i .i64 0), (.b false), (.b false), (.b false)]⟩]
noncomputable def objs21 : List ObjL := o21_0
noncomputable def lit21 : AV := (.so 0 0 1 0)
noncomputable def ids21 : List Nat := [12]
theorem ran21 : run (fun _ => none) 60 44 [.s 7 31069335677005634] (startH [] 1) 1 (fun v h _ => bc (sameT v (sh2 (fun j => ids21.getD j 0) lit21)) (sameOs objs21.length (fun j => ids21.getD j 0) h 1 ids21 objs21) false) = true := by kernel_rfl
theorem c21 : CtOK Tryz.prog 44 (memC (fun _ b => b) [.s 7 31069335677005634] lit21 objs21) :=
  memC_ok (ARGS0 := #[.string (Vx.str 7 31069335677005634)]) (G := fun w => HoldsG w []) (by kernel_rfl) (fun he hr => ⟨he, fun p hp => by cases hp⟩) (by kernel_rfl) (fun _ => .cons (by rw [Vx.Rv]) (.nil))
    (fun w hw => closedM (run_ok SpecOK.none 60) (by kernel_rfl) (by kernel_rfl) (by kernel_rfl) (fun _ => .cons (by rw [Vx.Rv]) (.nil)) ran21 w hw)

noncomputable def o22_0 : List ObjL := [
  ⟨36, ⟨18, (some 108), true⟩, 18, [(.s 9 1871225788471138284144), (.i .i64 0), (.i .u8 51), (.i .u8 6), (.f .f64 0), (.s 0 0), (.i .i64 6), (.i .u8 0), (.f .f64 0), (.s 0 0), (.i .i64 0), (.i .u8 0), (.f .f64 0), (.s 0 0), (.i .i64 0), (.b false), (.b false), (.b false), (.s 11 122660692322539984894586740), (.i .i64 0), (.i .u8 51), (.i .u8 5), (.f .f64 0), (.s 0 0), (.i .i64 0), (.i .u8 0), (.f .f64 0), (.s 0 0), (.i .i64 0), (.i .u8 0), (.f .f64 0), (.s 0 0), (.i .i64 0), (.b false), (.b false), (.b false)]⟩]
noncomputable def objs22 : List ObjL := o22_0
noncomputable def lit22 : AV := (.so 0 0 2 0)
noncomputable def ids22 : List Nat := [17]
theorem ran22 : run (fun _ => none) 60 44 [.s 6 119225648511315] (startH [] 1) 1 (fun v h _ => bc (sameT v (sh2 (fun j => ids22.getD j 0) lit22)) (sameOs objs22.length (fun j => ids22.getD j 0) h 1 ids22 objs22) false) = true := by kernel_rfl
theorem c22 : CtOK Tryz.prog 44 (memC (fun _ b => b) [.s 6 119225648511315] lit22 objs22) :=
  memC_ok (ARGS0 := #[.string (Vx.str 6 119225648511315)]) (G := fun w => HoldsG w []) (by kernel_rfl) (fun he hr => ⟨he, fun p hp => by cases hp⟩) (by kernel_rfl) (fun _ => .cons (by rw [Vx.Rv]) (.nil))
    (fun w hw => closedM (run_ok SpecOK.none 60) (by kernel_rfl) (by kernel_rfl) (by kernel_rfl) (fun _ => .cons (by rw [Vx.Rv]) (.nil)) ran22 w hw)

noncomputable def objs23 : List ObjL := []
noncomputable def lit23 : AV := .sn
noncomputable def ids23 : List Nat := []
theorem ran23 : run (fun _ => none) 60 44 [.s 5 500068610672] (startH [] 1) 1 (fun v h _ => bc (sameT v (sh2 (fun j => ids23.getD j 0) lit23)) (sameOs objs23.length (fun j => ids23.getD j 0) h 1 ids23 objs23) false) = true := by kernel_rfl
theorem c23 : CtOK Tryz.prog 44 (memC (fun _ b => b) [.s 5 500068610672] lit23 objs23) :=
  memC_ok (ARGS0 := #[.string (Vx.str 5 500068610672)]) (G := fun w => HoldsG w []) (by kernel_rfl) (fun he hr => ⟨he, fun p hp => by cases hp⟩) (by kernel_rfl) (fun _ => .cons (by rw [Vx.Rv]) (.nil))
    (fun w hw => closedM (run_ok SpecOK.none 60) (by kernel_rfl) (by kernel_rfl) (by kernel_rfl) (fun _ => .cons (by rw [Vx.Rv]) (.nil)) ran23 w hw)

noncomputable def sp : Specs := fun g => match g with
  | 44 => some (orC (memC (fun _ b => b) [.s 16 134836028218954895143400936043344192079] lit0 objs0) (orC (memC (fun _ b => b) [.s 18 8836613945357428008117923315573181480072518] lit1 objs1) (orC (memC (fun _ b => b) [.s 15 526703235230292559153909927861449281] lit2 objs2) (orC (memC (fun _ b => b) [.s 16 134836028218954895143400921797005309011] lit3 objs3) (orC (memC (fun _ b => b) [.s 16 134836028218954895143400933852860740942] lit4 objs4) (orC (memC (fun _ b => b) [.s 17 34518023224052453156710637936047264067394] lit5 objs5) (orC (memC (fun _ b => b) [.s 16 134836028218954895143400927298740648275] lit6 objs6) (orC (memC (fun _ b => b) [.s 15 526703235230292559153909898031559237] lit7 objs7) (orC (memC (fun _ b => b) [.s 19 2262173170011501570078188442576241700503583060] lit8 objs8) (orC (memC (fun _ b => b) [.s 20 579116331522944401940016241299517875328765550930] lit9 objs9) (orC (memC (fun _ b => b) [.s 24 2487285704470540079958648710090273815104165063456807347538] lit10 objs10) (orC (memC (fun _ b => b) [.s 6 127970252055119] lit11 objs11) (orC (memC (fun _ b => b) [.s 7 32760384559932754] lit12 objs12) (orC (memC (fun _ b => b) [.s 5 521325933121] lit13 objs13) (orC (memC (fun _ b => b) [.s 5 521711612496] lit14 objs14) (orC (memC (fun _ b => b) [.s 6 113723913172051] lit15 objs15) (orC (memC (fun _ b => b) [.s 5 491496043077] lit16 objs16) (orC (memC (fun _ b => b) [.s 9 2110959431130824079700] lit17 objs17) (orC (memC (fun _ b => b) [.s 10 540405614369490812690770] lit18 objs18) (orC (memC (fun _ b => b) [.s 14 2321024440291750412453479946020178] lit19 objs19) (orC (memC (fun _ b => b) [.s 6 125779768603982] lit20 objs20) (orC (memC (fun _ b => b) [.s 7 31069335677005634] lit21 objs21) (orC (memC (fun _ b => b) [.s 6 119225648511315] lit22 objs22) (memC (fun _ b => b) [.s 5 500068610672] lit23 objs23))))))))))))))))))))))))
  | g => (fun _ => none) g
theorem sp_ok : SpecOK Tryz.prog sp := by
  intro g C hC
  unfold sp at hC
  split at hC
  · cases hC; exact orC_ok c0 (orC_ok c1 (orC_ok c2 (orC_ok c3 (orC_ok c4 (orC_ok c5 (orC_ok c6 (orC_ok c7 (orC_ok c8 (orC_ok c9 (orC_ok c10 (orC_ok c11 (orC_ok c12 (orC_ok c13 (orC_ok c14 (orC_ok c15 (orC_ok c16 (orC_ok c17 (orC_ok c18 (orC_ok c19 (orC_ok c20 (orC_ok c21 (orC_ok c22 (c23)))))))))))))))))))))))
  · cases hC
end Go.Proofs.YtbmekbpgoakkbaaGreatDoor.Pr
