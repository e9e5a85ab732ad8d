/- A call that is known, by its inner calls. No condition. -/
import Derived.Test.YtbmekbpgoakkbaaGreatDoorSd
import Derived.Test.YtbmekbpgoakkbaaGreatDoorVxY
import Derived.Test.YtbmekbpgoakkbaaGreatDoorVxZ
import Derived.Test.YtbmekbpgoakkbaaGreatDoorKg
set_option linter.all false
set_option maxRecDepth 100000
namespace Go.Proofs.YtbmekbpgoakkbaaGreatDoor.Ta
open Go Vx

noncomputable def kA0 : List AV := [(.s 17 3481513581824797127218268621927187313264)]
noncomputable def kR0 : Vx.Rows := []
noncomputable def kV0 : AV := (.tu [(.ag [(.so 368 0 9 0)]), (.i .i64 0), (.i .i64 0)])
noncomputable def kS0 : Vx.Rows := [(368, ⟨45, ⟨5, (some 151), true⟩, 5, [(.i .u8 1), (.i .i64 0), (.s 0 0), (.f .f64 0), (.sl 337 0 2 2), (.i .u8 6), (.i .i64 0), (.s 0 0), (.f .f64 0), (.sl 341 0 1 1), (.i .u8 36), (.i .i64 0), (.s 0 0), (.f .f64 0), (.sl 345 0 2 2), (.i .u8 26), (.i .i64 0), (.s 5 3481513581824797127218268621927187313264), (.f .f64 0), (.sl 349 0 0 0), (.i .u8 39), (.i .i64 6), (.s 1 188733229447611752491), (.f .f64 0), (.sl 353 0 2 2), (.i .u8 20), (.i .i64 6), (.s 0 0), (.f .f64 4607182418800017408), (.sl 357 0 0 0), (.i .u8 20), (.i .i64 10), (.s 0 0), (.f .f64 4607182418800017408), (.sl 361 0 0 0), (.i .u8 6), (.i .i64 14), (.s 0 0), (.f .f64 0), (.sl 365 0 1 1), (.i .u8 20), (.i .i64 14), (.s 0 0), (.f .f64 4613937818241073152), (.sl 369 0 0 0)]⟩), (337, ⟨2, ⟨0, (some 3), true⟩, 1, [(.i .i64 1), (.i .i64 7)]⟩), (341, ⟨1, ⟨0, (some 3), true⟩, 1, [(.i .i64 2)]⟩), (345, ⟨2, ⟨0, (some 3), true⟩, 1, [(.i .i64 3), (.i .i64 4)]⟩), (349, ⟨0, ⟨0, (some 3), true⟩, 1, []⟩), (353, ⟨2, ⟨0, (some 3), true⟩, 1, [(.i .i64 5), (.i .i64 6)]⟩), (357, ⟨0, ⟨0, (some 3), true⟩, 1, []⟩), (361, ⟨0, ⟨0, (some 3), true⟩, 1, []⟩), (365, ⟨1, ⟨0, (some 3), true⟩, 1, [(.i .i64 8)]⟩), (369, ⟨0, ⟨0, (some 3), true⟩, 1, []⟩)]
theorem kr0 : keepRunG (run Sd.sp 200) 1 24 kA0 3 16 kR0 kV0 kS0 370 = true := by kernel_rfl

noncomputable def kA1 : List AV := [(.ag [(.so 368 0 9 0)])]
noncomputable def kR1 : Vx.Rows := [(368, ⟨45, ⟨5, (some 151), true⟩, 5, [(.i .u8 1), (.i .i64 0), (.s 0 0), (.f .f64 0), (.sl 337 0 2 2), (.i .u8 6), (.i .i64 0), (.s 0 0), (.f .f64 0), (.sl 341 0 1 1), (.i .u8 36), (.i .i64 0), (.s 0 0), (.f .f64 0), (.sl 345 0 2 2), (.i .u8 26), (.i .i64 0), (.s 5 3481513581824797127218268621927187313264), (.f .f64 0), (.sl 349 0 0 0), (.i .u8 39), (.i .i64 6), (.s 1 188733229447611752491), (.f .f64 0), (.sl 353 0 2 2), (.i .u8 20), (.i .i64 6), (.s 0 0), (.f .f64 4607182418800017408), (.sl 357 0 0 0), (.i .u8 20), (.i .i64 10), (.s 0 0), (.f .f64 4607182418800017408), (.sl 361 0 0 0), (.i .u8 6), (.i .i64 14), (.s 0 0), (.f .f64 0), (.sl 365 0 1 1), (.i .u8 20), (.i .i64 14), (.s 0 0), (.f .f64 4613937818241073152), (.sl 369 0 0 0)]⟩), (337, ⟨2, ⟨0, (some 3), true⟩, 1, [(.i .i64 1), (.i .i64 7)]⟩), (341, ⟨1, ⟨0, (some 3), true⟩, 1, [(.i .i64 2)]⟩), (345, ⟨2, ⟨0, (some 3), true⟩, 1, [(.i .i64 3), (.i .i64 4)]⟩), (349, ⟨0, ⟨0, (some 3), true⟩, 1, []⟩), (353, ⟨2, ⟨0, (some 3), true⟩, 1, [(.i .i64 5), (.i .i64 6)]⟩), (357, ⟨0, ⟨0, (some 3), true⟩, 1, []⟩), (361, ⟨0, ⟨0, (some 3), true⟩, 1, []⟩), (365, ⟨1, ⟨0, (some 3), true⟩, 1, [(.i .i64 8)]⟩), (369, ⟨0, ⟨0, (some 3), true⟩, 1, []⟩)]
noncomputable def kV1 : AV := (.tu [(.i .i64 0), (.i .i64 0)])
noncomputable def kS1 : Vx.Rows := []
theorem kr1 : keepRunG (run Sd.sp 200) 1 287 kA1 3 371 kR1 kV1 kS1 857 = true := by kernel_rfl

noncomputable def kA2 : List AV := [(.ag [(.so 368 0 9 0)])]
noncomputable def kR2 : Vx.Rows := [(368, ⟨45, ⟨5, (some 151), true⟩, 5, [(.i .u8 1), (.i .i64 0), (.s 0 0), (.f .f64 0), (.sl 337 0 2 2), (.i .u8 6), (.i .i64 0), (.s 0 0), (.f .f64 0), (.sl 341 0 1 1), (.i .u8 36), (.i .i64 0), (.s 0 0), (.f .f64 0), (.sl 345 0 2 2), (.i .u8 26), (.i .i64 0), (.s 5 3481513581824797127218268621927187313264), (.f .f64 0), (.sl 349 0 0 0), (.i .u8 39), (.i .i64 6), (.s 1 188733229447611752491), (.f .f64 0), (.sl 353 0 2 2), (.i .u8 20), (.i .i64 6), (.s 0 0), (.f .f64 4607182418800017408), (.sl 357 0 0 0), (.i .u8 20), (.i .i64 10), (.s 0 0), (.f .f64 4607182418800017408), (.sl 361 0 0 0), (.i .u8 6), (.i .i64 14), (.s 0 0), (.f .f64 0), (.sl 365 0 1 1), (.i .u8 20), (.i .i64 14), (.s 0 0), (.f .f64 4613937818241073152), (.sl 369 0 0 0)]⟩), (337, ⟨2, ⟨0, (some 3), true⟩, 1, [(.i .i64 1), (.i .i64 7)]⟩), (341, ⟨1, ⟨0, (some 3), true⟩, 1, [(.i .i64 2)]⟩), (345, ⟨2, ⟨0, (some 3), true⟩, 1, [(.i .i64 3), (.i .i64 4)]⟩), (349, ⟨0, ⟨0, (some 3), true⟩, 1, []⟩), (353, ⟨2, ⟨0, (some 3), true⟩, 1, [(.i .i64 5), (.i .i64 6)]⟩), (357, ⟨0, ⟨0, (some 3), true⟩, 1, []⟩), (361, ⟨0, ⟨0, (some 3), true⟩, 1, []⟩), (365, ⟨1, ⟨0, (some 3), true⟩, 1, [(.i .i64 8)]⟩), (369, ⟨0, ⟨0, (some 3), true⟩, 1, []⟩)]
noncomputable def kV2 : AV := (.tu [(.sl 1908 0 1 1), (.i .i64 0)])
noncomputable def kS2 : Vx.Rows := [(1908, ⟨5, ⟨0, (some 63), true⟩, 5, [(.so 1907 0 11 0), (.so 1901 0 3 0), (.so 1849 0 1 0), (.i .i64 0), (.i .i64 0)]⟩), (1907, ⟨33, ⟨3, (some 66), true⟩, 3, [(.i .u8 10), (.i .i64 0), (.i .i64 0), (.i .u8 9), (.i .i64 0), (.i .i64 0), (.i .u8 1), (.i .i64 0), (.i .i64 0), (.i .u8 1), (.i .i64 1), (.i .i64 0), (.i .u8 1), (.i .i64 1), (.i .i64 0), (.i .u8 13), (.i .i64 6), (.i .i64 0), (.i .u8 22), (.i .i64 1), (.i .i64 0), (.i .u8 39), (.i .i64 0), (.i .i64 0), (.i .u8 1), (.i .i64 2), (.i .i64 0), (.i .u8 39), (.i .i64 0), (.i .i64 0), (.i .u8 40), (.i .i64 0), (.i .i64 0)]⟩), (1901, ⟨12, ⟨4, (some 37), true⟩, 4, [(.i .u8 0), (.f .f64 0), (.s 0 0), (.i .i64 0), (.i .u8 3), (.f .f64 4607182418800017408), (.s 0 0), (.i .i64 0), (.i .u8 3), (.f .f64 4613937818241073152), (.s 0 0), (.i .i64 0)]⟩), (1849, ⟨1, ⟨1, (some 9), true⟩, 1, [(.s 5 3481513581824797127218268621927187313264)]⟩)]
theorem kr2 : keepRunG (run Sd.sp 200) 1 25 kA2 3 857 kR2 kV2 kS2 1909 = true := by kernel_rfl

noncomputable def ksp : Specs := fun g => match g with
  | 24 => some (keepG 1 kA0 3 16 kR0 kV0 kS0 370)
  | 25 => some (keepG 1 kA2 3 857 kR2 kV2 kS2 1909)
  | 287 => some (keepG 1 kA1 3 371 kR1 kV1 kS1 857)
  | g => Sd.sp g

noncomputable def lit0 : AV := (.s 28 1073296737819641485039540729144346428078422267287870088315339959151)
noncomputable def objs0 : List ObjL := []
noncomputable def ids0 : List Nat := []
noncomputable def args0 : List AV := [.s 49 4349826998455320181672769205608235729970547766490211973361292281182132611994688332980439158483243134936656271128486259]
theorem ran0 : run ksp 200 15 args0 (startH [(1, [.ii .i64])] 3) 3 (fun v h _ => bc (sameT v (sh2 (fun j => ids0.getD j 0) lit0)) (sameOs objs0.length (fun j => ids0.getD j 0) h 3 ids0 objs0) false) = true := by kernel_rfl
end Go.Proofs.YtbmekbpgoakkbaaGreatDoor.Ta
