/- OpInstances: the machine's states along the loop, and the contracts. No condition. -/
import Derived.Test.YtanfkimchoeckaaGreatVal
import Derived.Test.YtanfkimchoeckaaGreatVxY
import Derived.Test.YtanfkimchoeckaaGreatVxZd
namespace Go.Proofs.YtanfkimchoeckaaGreat.Ins
open Go Vx
set_option linter.unusedVariables false
set_option linter.constructorNameAsVariable false
set_option maxRecDepth 100000

/-- an answer: the object r -/
noncomputable def outC (r : Nat) (tl : List AV) : List AV := (.i .u8 1) :: (.i .u8 6) :: (.f .f64 0) :: (.s 0 0) :: (.i .i64 (Int.ofNat r)) :: (.b false) :: (.b false) :: (.i .u8 0) :: (.i .u8 0) :: (.f .f64 0) :: (.s 0 0) :: (.i .i64 0) :: (.i .u8 0) :: (.f .f64 0) :: (.s 0 0) :: (.i .i64 0) :: (.i .u8 0) :: (.f .f64 0) :: (.s 0 0) :: (.i .i64 0) :: (.b false) :: (.b false) :: (.b false) :: (.sn) :: (.i .u8 0) :: (.s 0 0) :: tl
noncomputable def outs (m : Nat) : Nat → List AV := Nat.rec (motive := fun _ => Nat → List AV) (fun _ => []) (fun _ ih i => outC (Nat.add 101 i) (ih (Nat.succ i))) m
/-- what is wanted: the prototype of r -/
noncomputable def wantL (r : Nat) : List AV := [.i .u8 1, .i .u8 1, .i .i64 (Int.ofNat r), .s 0 0, .i .i64 0, .i .u8 0, .i .u8 0, .f .f64 0, .s 0 0, .i .i64 0, .i .u8 0, .f .f64 0, .s 0 0, .i .i64 0, .i .u8 0, .f .f64 0, .s 0 0, .i .i64 0, .b false, .b false, .b false, .i .u8 0, .f .f64 0, .s 0 0, .i .i64 0, .i .u8 0, .f .f64 0, .s 0 0, .i .i64 0, .sn, .i .u8 0, .f .f64 0, .s 0 0, .i .i64 0, .i .u8 0, .f .f64 0, .s 0 0, .i .i64 0, .i .u8 0, .f .f64 0, .s 0 0, .i .i64 0, .sn, .i .u8 0, .i .u8 0, .f .f64 0, .s 0 0, .i .i64 0, .b false, .sn, .i .u8 0, .f .f64 0, .s 0 0, .i .i64 0, .i .u8 0, .f .f64 0, .s 0 0, .i .i64 0, .s 0 0, .b false, .b false, .i .u8 0, .i .u8 0, .f .f64 0, .s 0 0, .i .i64 0, .b false, .b false, .i .u8 0, .i .u8 0, .f .f64 0, .s 0 0, .i .i64 0, .i .u8 0, .f .f64 0, .s 0 0, .i .i64 0, .i .u8 0, .f .f64 0, .s 0 0, .i .i64 0, .b false, .b false, .b false, .sn, .i .u8 0, .s 0 0]
noncomputable def wantV (r : Nat) : AV := .tu [.ag (wantL r), .i .i64 0]
/-- the machine's rows, m objects given so far, the answers at a, the caller's want of the object q -/
noncomputable def rows (a m q : Nat) : List (Nat × ObjL) := [(18, ⟨1, ⟨0, some 79, true⟩, 1, [.p 17 0]⟩),
  (17, ⟨6, ⟨0, some 99, true⟩, 6, [.fn (.func 32) [] [.p 16 0, .p 4 0, .p 5 0], .so a 0 (Nat.succ m) 0, .i .u8 1, .i .u8 1, .b true, .b false]⟩),
  (16, ⟨1, ⟨0, some 67, true⟩, 1, [.fn (.func 45) [] []]⟩),
  (4, ⟨1, ⟨0, some 9, true⟩, 1, [.s 10 483736275649270941707881]⟩),
  (5, ⟨1, ⟨0, some 45, true⟩, 1, [.so 15 0 2 0]⟩),
  (a, ⟨Nat.mul 26 (Nat.succ m), ⟨26, some 34, true⟩, 26, outC 7 (outs m 0)⟩),
  (41, ⟨87, ⟨0, some 54, true⟩, 87, wantL q⟩),
  (15, ⟨8, ⟨4, some 24, true⟩, 4, [.i .u8 6, .f .f64 0, .s 0 0, .i .i64 100, .i .u8 7, .f .f64 0, .s 0 0, .i .i64 5]⟩)]
noncomputable def argsV (m : Nat) : List AV := [.p 18 0, .ag (outC (Nat.add 101 m) [])]
noncomputable def cut (m a n a' n' : Nat) : Ct := cutC (argsV m) n (rows a m (Nat.add 100 m)) (wantV (Nat.add 101 m)) (rows a' (Nat.succ m) (Nat.add 100 m)) n'
noncomputable def step (m a n a' n' : Nat) : Bool := cutRun (run (fun _ => none) 40) 18 (argsV m) n (rows a m (Nat.add 100 m)) (wantV (Nat.add 101 m)) (rows a' (Nat.succ m) (Nat.add 100 m)) n'
theorem step_ok {m a n a' n' : Nat} (h : step m a n a' n' = true) : CtOK Tryz.prog 18 (cut m a n a' n') :=
  cutC_ok (run_ok SpecOK.none 40) (fun u h => by cases h) h
noncomputable def straight : Ct := runC (run (fun _ => none) 40) 18
theorem straight_ok : CtOK Tryz.prog 18 straight := runC_ok (run_ok SpecOK.none 40) 18
noncomputable def next : Ct := orC (cut 0 58 85 102 136) (orC (cut 1 102 136 153 194) (orC (cut 2 153 194 211 259) (orC (cut 3 211 259 276 331) (orC (cut 4 276 331 348 410) (orC (cut 5 348 410 427 496) (orC (cut 6 427 496 513 589) (orC (cut 7 513 589 606 689) (orC (cut 8 606 689 706 796) (orC (cut 9 706 796 813 910) (orC (cut 10 813 910 927 1031) (orC (cut 11 927 1031 1048 1159) (orC (cut 12 1048 1159 1176 1294) (orC (cut 13 1176 1294 1311 1436) (orC (cut 14 1311 1436 1453 1585) (orC (cut 15 1453 1585 1602 1741) (orC (cut 16 1602 1741 1758 1904) (orC (cut 17 1758 1904 1921 2074) (orC (cut 18 1921 2074 2091 2251) (orC (cut 19 2091 2251 2268 2435) (orC (cut 20 2268 2435 2452 2626) (orC (cut 21 2452 2626 2643 2824) (orC (cut 22 2643 2824 2841 3029) (orC (cut 23 2841 3029 3046 3241) (orC (cut 24 3046 3241 3258 3460) (orC (cut 25 3258 3460 3477 3686) (orC (cut 26 3477 3686 3703 3919) (orC (cut 27 3703 3919 3936 4159) (orC (cut 28 3936 4159 4176 4406) (orC (cut 29 4176 4406 4423 4660) (orC (cut 30 4423 4660 4677 4921) (orC (cut 31 4677 4921 4938 5189) (orC (cut 32 4938 5189 5206 5464) (orC (cut 33 5206 5464 5481 5746) (orC (cut 34 5481 5746 5763 6035) (orC (cut 35 5763 6035 6052 6331) (orC (cut 36 6052 6331 6348 6634) (orC (cut 37 6348 6634 6651 6944) (orC (cut 38 6651 6944 6961 7261) (orC (cut 39 6961 7261 7278 7585) (orC (cut 40 7278 7585 7602 7916) (orC (cut 41 7602 7916 7933 8254) (orC (cut 42 7933 8254 8271 8599) (orC (cut 43 8271 8599 8616 8951) (orC (cut 44 8616 8951 8968 9310) (orC (cut 45 8968 9310 9327 9676) (orC (cut 46 9327 9676 9693 10049) (orC (cut 47 9693 10049 10066 10429) (orC (cut 48 10066 10429 10446 10816) (orC (cut 49 10446 10816 10833 11210) (orC (cut 50 10833 11210 11227 11611) (orC (cut 51 11227 11611 11628 12019) (orC (cut 52 11628 12019 12036 12434) (orC (cut 53 12036 12434 12451 12856) (orC (cut 54 12451 12856 12873 13285) (orC (cut 55 12873 13285 13302 13721) (orC (cut 56 13302 13721 13738 14164) (orC (cut 57 13738 14164 14181 14614) (orC (cut 58 14181 14614 14631 15071) (orC (cut 59 14631 15071 15088 15535) (orC (cut 60 15088 15535 15552 16006) (orC (cut 61 15552 16006 16023 16484) (orC (cut 62 16023 16484 16501 16969) (straight)))))))))))))))))))))))))))))))))))))))))))))))))))))))))))))))
noncomputable def SP : Specs := fun g => match g with
  | 7 => some (valC (fun _ b => b) [] (.b true))
  | 18 => some next
  | _ => none
/-- symbols: 1 the number, 2 whether it is found -/
noncomputable def many : SE := .rem 81 (.conv .i64 (.sy 1))
noncomputable def fs0 (a b : Int) : Facts := [(.cmp .leq many (.li .i64 a), false), (.cmp .leq many (.li .i64 b), true), (.cmp .leq (.sy 1) (.li .u8 255), true), (.cmp .leq (.sy 1) (.li .u8 (-1)), false)]
noncomputable def yes : AV := .x .b (.cmp .eql (.sy 2) (.li .u8 1))
noncomputable def G (a b : Int) : Bool := setF (fs0 a b) (startH [] 1) (fun h => run SP 40 6 [.x (.i .u8) (.sy 1), yes] h 3 (fun v h _ => finT v h))
end Go.Proofs.YtanfkimchoeckaaGreat.Ins
