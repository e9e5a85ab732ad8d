/- Calls whose answers are known: each by a closed run. No condition. -/
import Derived.Test.YtcjchampleghnaaGreatDoorLib0
import Derived.Test.YtcjchampleghnaaGreatDoorVxY
import Derived.Test.YtcjchampleghnaaGreatDoorVxZ
import Derived.Test.YtcjchampleghnaaGreatDoorPDa
import Derived.Test.YtcjchampleghnaaGreatDoorPDb
namespace Go.Proofs.YtcjchampleghnaaGreatDoor.PCalls
open Go

theorem ran0 : Vx.run Lib0.sp 60 11 [] (Vx.startH [(0, [.ii .i64])] 2) 2 (fun v _ _ => Vx.sameV v (.b true)) = true := by kernel_rfl
theorem c0 : Vx.CtOK Tryz.prog 11 (Vx.valC (fun h b => Vx.someInt h 0 b) [] (.b true)) :=
  Vx.valC_ok (ARGS0 := #[]) (G := fun w => Vx.HoldsG w [(0, [.ii .i64])]) (fun he hr => Vx.someInt_holds he hr) (by kernel_rfl) (fun _ => .nil)
    (fun w hw => Vx.closedV (Vx.run_ok Lib0.sp_ok 60) (by kernel_rfl) (by kernel_rfl) (fun _ => .nil) (by kernel_rfl) ran0 w hw)
theorem ran1 : Vx.run Lib0.sp 60 7 [.s 1 97, .i .i64 1, .i .i64 5] (Vx.startH [(0, [.ii .i64])] 2) 2 (fun v _ _ => Vx.sameV v (.b true)) = true := by kernel_rfl
theorem c1 : Vx.CtOK Tryz.prog 7 (Vx.valC (fun h b => Vx.someInt h 0 b) [.s 1 97, .i .i64 1, .i .i64 5] (.b true)) :=
  Vx.valC_ok (ARGS0 := #[.string (Vx.str 1 97), .int .i64 1, .int .i64 5]) (G := fun w => Vx.HoldsG w [(0, [.ii .i64])]) (fun he hr => Vx.someInt_holds he hr) (by kernel_rfl) (fun _ => .cons (by rw [Vx.Rv]) (.cons (by rw [Vx.Rv]) (.cons (by rw [Vx.Rv]) (.nil))))
    (fun w hw => Vx.closedV (Vx.run_ok Lib0.sp_ok 60) (by kernel_rfl) (by kernel_rfl) (fun _ => .cons (by rw [Vx.Rv]) (.cons (by rw [Vx.Rv]) (.cons (by rw [Vx.Rv]) (.nil)))) (by kernel_rfl) ran1 w hw)
theorem ran2 : Vx.run Lib0.sp 60 7 [.s 6 65086475280433, .i .i64 2, .i .i64 5] (Vx.startH [(0, [.ii .i64])] 2) 2 (fun v _ _ => Vx.sameV v (.b true)) = true := by kernel_rfl
theorem c2 : Vx.CtOK Tryz.prog 7 (Vx.valC (fun h b => Vx.someInt h 0 b) [.s 6 65086475280433, .i .i64 2, .i .i64 5] (.b true)) :=
  Vx.valC_ok (ARGS0 := #[.string (Vx.str 6 65086475280433), .int .i64 2, .int .i64 5]) (G := fun w => Vx.HoldsG w [(0, [.ii .i64])]) (fun he hr => Vx.someInt_holds he hr) (by kernel_rfl) (fun _ => .cons (by rw [Vx.Rv]) (.cons (by rw [Vx.Rv]) (.cons (by rw [Vx.Rv]) (.nil))))
    (fun w hw => Vx.closedV (Vx.run_ok Lib0.sp_ok 60) (by kernel_rfl) (by kernel_rfl) (fun _ => .cons (by rw [Vx.Rv]) (.cons (by rw [Vx.Rv]) (.cons (by rw [Vx.Rv]) (.nil)))) (by kernel_rfl) ran2 w hw)
theorem ran3 : Vx.run Lib0.sp 60 7 [.s 13 4704830354595739840063834449513, .i .i64 7, .i .i64 5] (Vx.startH [(0, [.ii .i64])] 2) 2 (fun v _ _ => Vx.sameV v (.b true)) = true := by kernel_rfl
theorem c3 : Vx.CtOK Tryz.prog 7 (Vx.valC (fun h b => Vx.someInt h 0 b) [.s 13 4704830354595739840063834449513, .i .i64 7, .i .i64 5] (.b true)) :=
  Vx.valC_ok (ARGS0 := #[.string (Vx.str 13 4704830354595739840063834449513), .int .i64 7, .int .i64 5]) (G := fun w => Vx.HoldsG w [(0, [.ii .i64])]) (fun he hr => Vx.someInt_holds he hr) (by kernel_rfl) (fun _ => .cons (by rw [Vx.Rv]) (.cons (by rw [Vx.Rv]) (.cons (by rw [Vx.Rv]) (.nil))))
    (fun w hw => Vx.closedV (Vx.run_ok Lib0.sp_ok 60) (by kernel_rfl) (by kernel_rfl) (fun _ => .cons (by rw [Vx.Rv]) (.cons (by rw [Vx.Rv]) (.cons (by rw [Vx.Rv]) (.nil)))) (by kernel_rfl) ran3 w hw)
theorem ran4 : Vx.run Lib0.sp 60 7 [.s 6 137967779279476, .i .i64 6, .i .i64 5] (Vx.startH [(0, [.ii .i64])] 2) 2 (fun v _ _ => Vx.sameV v (.b true)) = true := by kernel_rfl
theorem c4 : Vx.CtOK Tryz.prog 7 (Vx.valC (fun h b => Vx.someInt h 0 b) [.s 6 137967779279476, .i .i64 6, .i .i64 5] (.b true)) :=
  Vx.valC_ok (ARGS0 := #[.string (Vx.str 6 137967779279476), .int .i64 6, .int .i64 5]) (G := fun w => Vx.HoldsG w [(0, [.ii .i64])]) (fun he hr => Vx.someInt_holds he hr) (by kernel_rfl) (fun _ => .cons (by rw [Vx.Rv]) (.cons (by rw [Vx.Rv]) (.cons (by rw [Vx.Rv]) (.nil))))
    (fun w hw => Vx.closedV (Vx.run_ok Lib0.sp_ok 60) (by kernel_rfl) (by kernel_rfl) (fun _ => .cons (by rw [Vx.Rv]) (.cons (by rw [Vx.Rv]) (.cons (by rw [Vx.Rv]) (.nil)))) (by kernel_rfl) ran4 w hw)
theorem ran5 : Vx.run Lib0.sp 60 7 [.s 6 65288342562158, .i .i64 5, .i .i64 5] (Vx.startH [(0, [.ii .i64])] 2) 2 (fun v _ _ => Vx.sameV v (.b true)) = true := by kernel_rfl
theorem c5 : Vx.CtOK Tryz.prog 7 (Vx.valC (fun h b => Vx.someInt h 0 b) [.s 6 65288342562158, .i .i64 5, .i .i64 5] (.b true)) :=
  Vx.valC_ok (ARGS0 := #[.string (Vx.str 6 65288342562158), .int .i64 5, .int .i64 5]) (G := fun w => Vx.HoldsG w [(0, [.ii .i64])]) (fun he hr => Vx.someInt_holds he hr) (by kernel_rfl) (fun _ => .cons (by rw [Vx.Rv]) (.cons (by rw [Vx.Rv]) (.cons (by rw [Vx.Rv]) (.nil))))
    (fun w hw => Vx.closedV (Vx.run_ok Lib0.sp_ok 60) (by kernel_rfl) (by kernel_rfl) (fun _ => .cons (by rw [Vx.Rv]) (.cons (by rw [Vx.Rv]) (.cons (by rw [Vx.Rv]) (.nil)))) (by kernel_rfl) ran5 w hw)
theorem ran6 : Vx.run Lib0.sp 60 7 [.s 6 65048021117030, .i .i64 4, .i .i64 5] (Vx.startH [(0, [.ii .i64])] 2) 2 (fun v _ _ => Vx.sameV v (.b true)) = true := by kernel_rfl
theorem c6 : Vx.CtOK Tryz.prog 7 (Vx.valC (fun h b => Vx.someInt h 0 b) [.s 6 65048021117030, .i .i64 4, .i .i64 5] (.b true)) :=
  Vx.valC_ok (ARGS0 := #[.string (Vx.str 6 65048021117030), .int .i64 4, .int .i64 5]) (G := fun w => Vx.HoldsG w [(0, [.ii .i64])]) (fun he hr => Vx.someInt_holds he hr) (by kernel_rfl) (fun _ => .cons (by rw [Vx.Rv]) (.cons (by rw [Vx.Rv]) (.cons (by rw [Vx.Rv]) (.nil))))
    (fun w hw => Vx.closedV (Vx.run_ok Lib0.sp_ok 60) (by kernel_rfl) (by kernel_rfl) (fun _ => .cons (by rw [Vx.Rv]) (.cons (by rw [Vx.Rv]) (.cons (by rw [Vx.Rv]) (.nil)))) (by kernel_rfl) ran6 w hw)
theorem ran7 : Vx.run Lib0.sp 60 8 [.s 12 18379451128409401641066848552] (Vx.startH [(0, [.ii .i64])] 2) 2 (fun v _ _ => Vx.sameV v (.s 15 307002405303407668790565758115586088)) = true := by kernel_rfl
theorem c7 : Vx.CtOK Tryz.prog 8 (Vx.valC (fun h b => Vx.someInt h 0 b) [.s 12 18379451128409401641066848552] (.s 15 307002405303407668790565758115586088)) :=
  Vx.valC_ok (ARGS0 := #[.string (Vx.str 12 18379451128409401641066848552)]) (G := fun w => Vx.HoldsG w [(0, [.ii .i64])]) (fun he hr => Vx.someInt_holds he hr) (by kernel_rfl) (fun _ => .cons (by rw [Vx.Rv]) (.nil))
    (fun w hw => Vx.closedV (Vx.run_ok Lib0.sp_ok 60) (by kernel_rfl) (by kernel_rfl) (fun _ => .cons (by rw [Vx.Rv]) (.nil)) (by kernel_rfl) ran7 w hw)
theorem ran8 : Vx.run Lib0.sp 60 8 [.s 12 18309649645676707377832468577] (Vx.startH [(0, [.ii .i64])] 2) 2 (fun v _ _ => Vx.sameV v (.s 11 71479567630078811254235233)) = true := by kernel_rfl
theorem c8 : Vx.CtOK Tryz.prog 8 (Vx.valC (fun h b => Vx.someInt h 0 b) [.s 12 18309649645676707377832468577] (.s 11 71479567630078811254235233)) :=
  Vx.valC_ok (ARGS0 := #[.string (Vx.str 12 18309649645676707377832468577)]) (G := fun w => Vx.HoldsG w [(0, [.ii .i64])]) (fun he hr => Vx.someInt_holds he hr) (by kernel_rfl) (fun _ => .cons (by rw [Vx.Rv]) (.nil))
    (fun w hw => Vx.closedV (Vx.run_ok Lib0.sp_ok 60) (by kernel_rfl) (by kernel_rfl) (fun _ => .cons (by rw [Vx.Rv]) (.nil)) (by kernel_rfl) ran8 w hw)

noncomputable def sp : Vx.Specs := fun g => match g with
  | 7 => some (Vx.orC (Vx.valC (fun h b => Vx.someInt h 0 b) [.s 1 97, .i .i64 1, .i .i64 5] (.b true)) (Vx.orC (Vx.valC (fun h b => Vx.someInt h 0 b) [.s 6 65086475280433, .i .i64 2, .i .i64 5] (.b true)) (Vx.orC (Vx.valC (fun h b => Vx.someInt h 0 b) [.s 13 4704830354595739840063834449513, .i .i64 7, .i .i64 5] (.b true)) (Vx.orC (Vx.valC (fun h b => Vx.someInt h 0 b) [.s 6 137967779279476, .i .i64 6, .i .i64 5] (.b true)) (Vx.orC (Vx.valC (fun h b => Vx.someInt h 0 b) [.s 6 65288342562158, .i .i64 5, .i .i64 5] (.b true)) (Vx.orC (Vx.valC (fun h b => Vx.someInt h 0 b) [.s 6 65048021117030, .i .i64 4, .i .i64 5] (.b true)) (Vx.orC (Vx.valC (fun h b => Vx.someInt h 0 b) [.s 300 46506044672937746528755089271512030845042054820020913696640363064610362561659444818424726306214190008999435770132575833054821849886286412133412498443709254421183820955996818155034583116055924414676480500895074897370040400880457113130526316733880610344744047261693749151128180820040791610579894948376784815377609193115856329965475014955242836173614884885050547498852414469909233867151513049387252900001852876187973913993186161541066764757271329640804772954268240827326401502095315034651449470857578787522484589611477884001113589350592639643632983026911285554262311212550532625574034373867331568493546341329474558393738294241151219478849213515793851882535751605265747039285373876583550070582787135258995661635967830492457000, .i .i64 199, .i .i64 6] (.b true)) (Vx.valC (fun h b => Vx.someInt h 0 b) [.s 300 143006087369283570575921899509899494848504318571564309617169116423676864877102792816656033391608634277673264993157670686643577188400330717310243432714405957345140249439690215826731343081871967575130177540252355309412874232707405622876368423956682876810087945329708278639719156021625434202533176966258613307286148268831258214643835670987371721233865771021530433558971174494970894141490902626865802667505697594278019785529047446738780301628609338645474676834374840544028684618943093731553207122887054771631640113055294493303424287253072366904171422807752203079356606978592887823640155699642044573117654999588134267060745254791539999897461331561066094538797436186192172145802524670494416467042070440921411659530601078764305275, .i .i64 200, .i .i64 6] (.b true)))))))))
  | 8 => some (Vx.orC (Vx.valC (fun h b => Vx.someInt h 0 b) [.s 12 18379451128409401641066848552] (.s 15 307002405303407668790565758115586088)) (Vx.valC (fun h b => Vx.someInt h 0 b) [.s 12 18309649645676707377832468577] (.s 11 71479567630078811254235233)))
  | 11 => some (Vx.valC (fun h b => Vx.someInt h 0 b) [] (.b true))
  | g => Lib0.sp g
theorem sp_ok : Vx.SpecOK Tryz.prog sp := by
  intro g C hC
  unfold sp at hC
  split at hC
  · cases hC; exact Vx.orC_ok c1 (Vx.orC_ok c2 (Vx.orC_ok c3 (Vx.orC_ok c4 (Vx.orC_ok c5 (Vx.orC_ok c6 (Vx.orC_ok PDa.c0 (PDb.c0)))))))
  · cases hC; exact Vx.orC_ok c7 (c8)
  · cases hC; exact c0
  · exact Lib0.sp_ok _ _ hC
end Go.Proofs.YtcjchampleghnaaGreatDoor.PCalls
