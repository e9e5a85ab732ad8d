/- The calls whose answers are known, as contracts. No condition. -/
import Derived.Test.YtbmekbpgoakkbaaGreatDoorSo
import Derived.Test.YtbmekbpgoakkbaaGreatDoorSe
import Derived.Test.YtbmekbpgoakkbaaGreatDoorStab
import Derived.Test.YtbmekbpgoakkbaaGreatDoorTs
import Derived.Test.YtbmekbpgoakkbaaGreatDoorTe
import Derived.Test.YtbmekbpgoakkbaaGreatDoorTa
import Derived.Test.YtbmekbpgoakkbaaGreatDoorTb
import Derived.Test.YtbmekbpgoakkbaaGreatDoorTc
import Derived.Test.YtbmekbpgoakkbaaGreatDoorTf
import Derived.Test.YtbmekbpgoakkbaaGreatDoorTr
import Derived.Test.YtbmekbpgoakkbaaGreatDoorRows
import Derived.Lib.LaidTab
import Derived.OpenShut
import Derived.ProofKit
set_option linter.all false
set_option maxRecDepth 100000
namespace Go.Proofs.YtbmekbpgoakkbaaGreatDoor.Se
open Go Vx Go.Shelf
noncomputable def iS : TypeInfo := (Tryz.prog.info? 82).get (by kernel_rfl)
noncomputable def iK : TypeInfo := (Tryz.prog.info? 86).get (by kernel_rfl)
theorem swK (n : Nat) (h2 : 2 ≤ n) : Go.Lib.swapperK n iK 25 = 9 := by
  have a : iK.hasPointers = true := by kernel_rfl
  have b : (iK.bytes == 8) = false := by kernel_rfl
  have c : (n == 0) = false := by simp; omega
  have d : (n == 1) = false := by simp; omega
  simp [Go.Lib.swapperK, a, b, c, d]
theorem stab : CtOK Tryz.prog 441 (stableC (run Sd.sp 200) 579 664 82 86 Tryz.prog.globals.size) :=
  stableC_ok Tryz.stableA (run_ok So.sp_ok 200) (i := iS) (ie := iK) (by kernel_rfl) (by kernel_rfl) (by kernel_rfl) (by kernel_rfl) 25 (fun _ => by kernel_rfl) swK (by kernel_rfl) (s1 := 656) (s2 := 657) (by kernel_rfl) (by kernel_rfl)
theorem sp_ok : SpecOK Tryz.prog sp := by
  intro g C hC
  unfold sp at hC
  split at hC
  · cases hC; exact stab
  · exact So.sp_ok _ _ hC
end Go.Proofs.YtbmekbpgoakkbaaGreatDoor.Se
set_option linter.all false
set_option maxRecDepth 100000
namespace Go.Proofs.YtbmekbpgoakkbaaGreatDoor.Ts
open Go Vx

theorem c0 : CtOK Tryz.prog 15 (memC (fun h b => someInt h 1 b) args0 lit0 objs0) :=
  memC_ok (ARGS0 := #[.string (Vx.str 12 3230776120801753149031212396)]) (G := fun w => HoldsG w [(1, [.ii .i64])]) (by kernel_rfl) (fun he hr => someInt_holds he hr) (by kernel_rfl) (fun _ => .cons (by rw [Vx.Rv]) (.nil))
    (fun w hw => closedM (run_ok So.sp_ok 200) (by kernel_rfl) (by kernel_rfl) (by kernel_rfl) (fun _ => .cons (by rw [Vx.Rv]) (.nil)) ran0 w hw)

theorem c1 : CtOK Tryz.prog 15 (memC (fun h b => someInt h 1 b) args1 lit1 objs1) :=
  memC_ok (ARGS0 := #[.string (Vx.str 29 3238610653189936619700178002053857198430888306689894546760623763322222)]) (G := fun w => HoldsG w [(1, [.ii .i64])]) (by kernel_rfl) (fun he hr => someInt_holds he hr) (by kernel_rfl) (fun _ => .cons (by rw [Vx.Rv]) (.nil))
    (fun w hw => closedM (run_ok So.sp_ok 200) (by kernel_rfl) (by kernel_rfl) (by kernel_rfl) (fun _ => .cons (by rw [Vx.Rv]) (.nil)) ran1 w hw)

theorem c2 : CtOK Tryz.prog 15 (memC (fun h b => someInt h 1 b) args2 lit2 objs2) :=
  memC_ok (ARGS0 := #[.string (Vx.str 32 52085688059384348835919823803187999727981284837094756645894418088858593881200)]) (G := fun w => HoldsG w [(1, [.ii .i64])]) (by kernel_rfl) (fun he hr => someInt_holds he hr) (by kernel_rfl) (fun _ => .cons (by rw [Vx.Rv]) (.nil))
    (fun w hw => closedM (run_ok So.sp_ok 200) (by kernel_rfl) (by kernel_rfl) (by kernel_rfl) (fun _ => .cons (by rw [Vx.Rv]) (.nil)) ran2 w hw)

theorem c3 : CtOK Tryz.prog 15 (memC (fun h b => someInt h 1 b) args3 lit3 objs3) :=
  memC_ok (ARGS0 := #[.string (Vx.str 29 3138424951853434098484886355156107522078315161831807601541400958498162)]) (G := fun w => HoldsG w [(1, [.ii .i64])]) (by kernel_rfl) (fun he hr => someInt_holds he hr) (by kernel_rfl) (fun _ => .cons (by rw [Vx.Rv]) (.nil))
    (fun w hw => closedM (run_ok So.sp_ok 200) (by kernel_rfl) (by kernel_rfl) (by kernel_rfl) (fun _ => .cons (by rw [Vx.Rv]) (.nil)) ran3 w hw)

theorem c4 : CtOK Tryz.prog 15 (memC (fun h b => someInt h 1 b) args4 lit4 objs4) :=
  memC_ok (ARGS0 := #[.string (Vx.str 0 0)]) (G := fun w => HoldsG w [(1, [.ii .i64])]) (by kernel_rfl) (fun he hr => someInt_holds he hr) (by kernel_rfl) (fun _ => .cons (by rw [Vx.Rv]) (.nil))
    (fun w hw => closedM (run_ok So.sp_ok 200) (by kernel_rfl) (by kernel_rfl) (by kernel_rfl) (fun _ => .cons (by rw [Vx.Rv]) (.nil)) ran4 w hw)

theorem c5 : CtOK Tryz.prog 15 (memC (fun h b => someInt h 1 b) args5 lit5 objs5) :=
  memC_ok (ARGS0 := #[.string (Vx.str 19 1073264666343839777322613657783004127708143987)]) (G := fun w => HoldsG w [(1, [.ii .i64])]) (by kernel_rfl) (fun he hr => someInt_holds he hr) (by kernel_rfl) (fun _ => .cons (by rw [Vx.Rv]) (.nil))
    (fun w hw => closedM (run_ok So.sp_ok 200) (by kernel_rfl) (by kernel_rfl) (by kernel_rfl) (fun _ => .cons (by rw [Vx.Rv]) (.nil)) ran5 w hw)

theorem c6 : CtOK Tryz.prog 15 (memC (fun h b => someInt h 1 b) args6 lit6 objs6) :=
  memC_ok (ARGS0 := #[.string (Vx.str 22 37556843681839583799170401778687700352567091253567859)]) (G := fun w => HoldsG w [(1, [.ii .i64])]) (by kernel_rfl) (fun he hr => someInt_holds he hr) (by kernel_rfl) (fun _ => .cons (by rw [Vx.Rv]) (.nil))
    (fun w hw => closedM (run_ok So.sp_ok 200) (by kernel_rfl) (by kernel_rfl) (by kernel_rfl) (fun _ => .cons (by rw [Vx.Rv]) (.nil)) ran6 w hw)

theorem sp_ok : SpecOK Tryz.prog sp := by
  intro g C hC
  unfold sp at hC
  split at hC
  · cases hC; exact So.selC_ok c0 (So.selC_ok c1 (So.selC_ok c2 (So.selC_ok c3 (So.selC_ok c4 (So.selC_ok c5 (c6))))))
  · exact So.sp_ok _ _ hC
end Go.Proofs.YtbmekbpgoakkbaaGreatDoor.Ts
set_option linter.all false
set_option maxRecDepth 100000
namespace Go.Proofs.YtbmekbpgoakkbaaGreatDoor.Te
open Go Vx

theorem c0 : CtOK Tryz.prog 15 (memC (fun h b => someInt h 1 b) args0 lit0 objs0) :=
  memC_ok (ARGS0 := #[.string (Vx.str 40 837967983090994731192654729860014263829292928108454985509483326992123941674173183967238744007027)]) (G := fun w => HoldsG w [(1, [.ii .i64])]) (by kernel_rfl) (fun he hr => someInt_holds he hr) (by kernel_rfl) (fun _ => .cons (by rw [Vx.Rv]) (.nil))
    (fun w hw => closedM (run_ok So.sp_ok 200) (by kernel_rfl) (by kernel_rfl) (by kernel_rfl) (fun _ => .cons (by rw [Vx.Rv]) (.nil)) ran0 w hw)

theorem sp_ok : SpecOK Tryz.prog sp := by
  intro g C hC
  unfold sp at hC
  split at hC
  · cases hC; exact c0
  · exact So.sp_ok _ _ hC
end Go.Proofs.YtbmekbpgoakkbaaGreatDoor.Te
set_option linter.all false
set_option maxRecDepth 100000
namespace Go.Proofs.YtbmekbpgoakkbaaGreatDoor.Ta
open Go Vx

theorem kc0 : CtOK Tryz.prog 24 (keepG 1 kA0 3 16 kR0 kV0 kS0 370) := keepG_ok (run_ok So.sp_ok 200) kr0
theorem kc1 : CtOK Tryz.prog 287 (keepG 1 kA1 3 371 kR1 kV1 kS1 857) := keepG_ok (run_ok So.sp_ok 200) kr1
theorem kc2 : CtOK Tryz.prog 25 (keepG 1 kA2 3 857 kR2 kV2 kS2 1909) := keepG_ok (run_ok So.sp_ok 200) kr2
theorem ksp_ok : SpecOK Tryz.prog ksp := by
  intro g C hC
  unfold ksp at hC
  split at hC
  · cases hC; exact kc0
  · cases hC; exact kc2
  · cases hC; exact kc1
  · exact So.sp_ok _ _ hC

theorem c0 : CtOK Tryz.prog 15 (memC (fun h b => someInt h 1 b) args0 lit0 objs0) :=
  memC_ok (ARGS0 := #[.string (Vx.str 49 4349826998455320181672769205608235729970547766490211973361292281182132611994688332980439158483243134936656271128486259)]) (G := fun w => HoldsG w [(1, [.ii .i64])]) (by kernel_rfl) (fun he hr => someInt_holds he hr) (by kernel_rfl) (fun _ => .cons (by rw [Vx.Rv]) (.nil))
    (fun w hw => closedM (run_ok ksp_ok 200) (by kernel_rfl) (by kernel_rfl) (by kernel_rfl) (fun _ => .cons (by rw [Vx.Rv]) (.nil)) ran0 w hw)
end Go.Proofs.YtbmekbpgoakkbaaGreatDoor.Ta
set_option linter.all false
set_option maxRecDepth 100000
namespace Go.Proofs.YtbmekbpgoakkbaaGreatDoor.Tb
open Go Vx

theorem kc0 : CtOK Tryz.prog 24 (keepG 1 kA0 3 18 kR0 kV0 kS0 867) := keepG_ok (run_ok So.sp_ok 200) kr0
theorem kc1 : CtOK Tryz.prog 287 (keepG 1 kA1 3 868 kR1 kV1 kS1 1978) := keepG_ok (run_ok So.sp_ok 200) kr1
theorem kc2 : CtOK Tryz.prog 25 (keepG 1 kA2 3 1978 kR2 kV2 kS2 4339) := keepG_ok (run_ok So.sp_ok 200) kr2
theorem ksp_ok : SpecOK Tryz.prog ksp := by
  intro g C hC
  unfold ksp at hC
  split at hC
  · cases hC; exact kc0
  · cases hC; exact kc2
  · cases hC; exact kc1
  · exact So.sp_ok _ _ hC

theorem c0 : CtOK Tryz.prog 15 (memC (fun h b => someInt h 1 b) args0 lit0 objs0) :=
  memC_ok (ARGS0 := #[.string (Vx.str 85 1121325543941907451756086436024332364215663214710790187399473837671925153619519892566275193671135505094130563907438590407121871233663658198943453074613646365818587070541958427505480947801612304481575854451)]) (G := fun w => HoldsG w [(1, [.ii .i64])]) (by kernel_rfl) (fun he hr => someInt_holds he hr) (by kernel_rfl) (fun _ => .cons (by rw [Vx.Rv]) (.nil))
    (fun w hw => closedM (run_ok ksp_ok 200) (by kernel_rfl) (by kernel_rfl) (by kernel_rfl) (fun _ => .cons (by rw [Vx.Rv]) (.nil)) ran0 w hw)
end Go.Proofs.YtbmekbpgoakkbaaGreatDoor.Tb
set_option linter.all false
set_option maxRecDepth 100000
namespace Go.Proofs.YtbmekbpgoakkbaaGreatDoor.Tc
open Go Vx

theorem kc0 : CtOK Tryz.prog 24 (keepG 1 kA0 3 18 kR0 kV0 kS0 1030) := keepG_ok (run_ok Se.sp_ok 200) kr0
theorem kc1 : CtOK Tryz.prog 287 (keepG 1 kA1 3 1031 kR1 kV1 kS1 2374) := keepG_ok (run_ok Se.sp_ok 200) kr1
theorem kc2 : CtOK Tryz.prog 25 (keepG 1 kA2 3 2374 kR2 kV2 kS2 5268) := keepG_ok (run_ok Se.sp_ok 200) kr2
theorem ksp_ok : SpecOK Tryz.prog ksp := by
  intro g C hC
  unfold ksp at hC
  split at hC
  · cases hC; exact kc0
  · cases hC; exact kc2
  · cases hC; exact kc1
  · exact Se.sp_ok _ _ hC

theorem c0 : CtOK Tryz.prog 15 (memC (fun h b => someInt h 1 b) args0 lit0 objs0) :=
  memC_ok (ARGS0 := #[.string (Vx.str 100 1490497305396332256705800548793318550563380094155177492442873136071594485504568230496014907951492677939279188920320969747003503439846750888302852582210134558189990495315853327021073834441961472692112253522977056534906768578827609689019736435)]) (G := fun w => HoldsG w [(1, [.ii .i64])]) (by kernel_rfl) (fun he hr => someInt_holds he hr) (by kernel_rfl) (fun _ => .cons (by rw [Vx.Rv]) (.nil))
    (fun w hw => closedM (run_ok ksp_ok 200) (by kernel_rfl) (by kernel_rfl) (by kernel_rfl) (fun _ => .cons (by rw [Vx.Rv]) (.nil)) ran0 w hw)
end Go.Proofs.YtbmekbpgoakkbaaGreatDoor.Tc
set_option linter.all false
set_option maxRecDepth 100000
namespace Go.Proofs.YtbmekbpgoakkbaaGreatDoor.Tf
open Go Vx
theorem pw_ok (E : Env) : RvL E pw [.int .u64 1, .int .u64 10, .int .u64 100, .int .u64 1000, .int .u64 10000, .int .u64 100000, .int .u64 1000000, .int .u64 10000000, .int .u64 100000000, .int .u64 1000000000, .int .u64 10000000000, .int .u64 100000000000, .int .u64 1000000000000, .int .u64 10000000000000, .int .u64 100000000000000, .int .u64 1000000000000000, .int .u64 10000000000000000, .int .u64 100000000000000000, .int .u64 1000000000000000000, .int .u64 10000000000000000000] := by
  unfold pw
  repeat first | exact .nil | refine .cons (by rw [Rv]) ?_
theorem okP_ok {E : Env} {h : Heap} {nxt : Nat} {w : World} {b : Bool} (he : okP h b = true) (hr : HR E h nxt w) : b = true ∧ HoldsG w [(1, [.ii .i64]), (2, pw)] := by
  obtain ⟨h1, h2⟩ := someInt_holds he hr
  obtain ⟨h3, h4⟩ := tabIs_holds (by kernel_rfl) pw_ok h1 hr
  exact ⟨h3, holds_two h2 h4⟩
theorem c0 : CtOK Tryz.prog 15 (memC okP args0 lit0 objs0) :=
  memC_ok (ARGS0 := #[.string (Vx.str 37 24462333093391317423467998127259185832846109288075926887487358552005906730870192289903215)]) (G := fun w => HoldsG w [(1, [.ii .i64]), (2, pw)]) (by kernel_rfl) (fun he hr => okP_ok he hr) (by kernel_rfl) (fun _ => .cons (by rw [Vx.Rv]) (.nil))
    (fun w hw => closedM (run_ok Se.sp_ok 200) (by kernel_rfl) (by kernel_rfl) (by kernel_rfl) (fun _ => .cons (by rw [Vx.Rv]) (.nil)) ran0 w hw)
end Go.Proofs.YtbmekbpgoakkbaaGreatDoor.Tf
set_option linter.all false
namespace Go.Proofs.YtbmekbpgoakkbaaGreatDoor.Tj
open Go Vx
theorem sp_ok : SpecOK Tryz.prog sp := by
  intro g C hC
  unfold sp at hC
  split at hC
  · cases hC; exact So.selC_ok Ts.c0 (So.selC_ok Ts.c1 (So.selC_ok Ts.c2 (So.selC_ok Ts.c3 (So.selC_ok Ts.c4 (So.selC_ok Ts.c5 (So.selC_ok Ts.c6 (So.selC_ok Te.c0 (So.selC_ok Ta.c0 (So.selC_ok Tb.c0 (So.selC_ok Tc.c0 (Tf.c0)))))))))))
  · exact So.sp_ok _ _ hC
end Go.Proofs.YtbmekbpgoakkbaaGreatDoor.Tj
set_option linter.all false
set_option maxRecDepth 100000
namespace Go.Proofs.YtbmekbpgoakkbaaGreatDoor.Tf
open Go
theorem pw_holds {W : World} (hL : laidMetH Tryz.prog Rows.taleNamesRow.laid W) : Vx.HoldsG W [(2, pw)] := by
  have hL : laidMet Tryz.prog Rows.taleNamesRow.laid W := hL
  obtain ⟨ps, ⟨_, _, _, _, _, _, _, _, _, _, ⟨_, _, _, _, _, _, _, _, _, _, ⟨g, t, cs, fuel, p, q, hg, ht, hvar, hd, _⟩, _⟩, _⟩, _⟩ := hL
  obtain rfl : g = 2 := Option.some.inj (hg.symm.trans (by kernel_rfl))
  obtain rfl : t = 596 := Option.some.inj (ht.symm.trans (by kernel_rfl))
  rw [show Rows.laid_internal_strconv_uint64pow10 (H := Unit) = Lib.tabData .u64 Lib.pow10Tab from by kernel_rfl] at hd
  have hc := Lib.cells_of_tab Tryz.underlying596 Tryz.underlying220 (by kernel_rfl) (by kernel_rfl) hd
  unfold World.var? at hvar
  rw [hg] at hvar
  have hvar : (match W.heap[(2 : Nat)]? with | some (Obj.cells cs _ _) => some cs | _ => none) = some cs := hvar
  split at hvar <;> cases hvar
  rename_i el fr hb
  intro p hp
  obtain rfl := List.mem_singleton.1 hp
  refine ⟨cs, el, fr, hb, fun E => ?_⟩
  have hpw := pw_ok E
  have e : cs.toList.take pw.length = [.int .u64 1, .int .u64 10, .int .u64 100, .int .u64 1000, .int .u64 10000, .int .u64 100000, .int .u64 1000000, .int .u64 10000000, .int .u64 100000000, .int .u64 1000000000, .int .u64 10000000000, .int .u64 100000000000, .int .u64 1000000000000, .int .u64 10000000000000, .int .u64 100000000000000, .int .u64 1000000000000000, .int .u64 10000000000000000, .int .u64 100000000000000000, .int .u64 1000000000000000000, .int .u64 10000000000000000000] := by
    rw [hc]; kernel_rfl
  show Vx.RvL E pw (cs.toList.take pw.length)
  rw [e]; exact hpw
end Go.Proofs.YtbmekbpgoakkbaaGreatDoor.Tf
