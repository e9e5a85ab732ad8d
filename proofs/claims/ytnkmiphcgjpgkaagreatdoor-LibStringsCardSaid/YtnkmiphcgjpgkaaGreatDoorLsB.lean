/- LibStrings: what is taken by contract, what is known of the strings, the runs. No condition. -/
import Derived.Test.YtnkmiphcgjpgkaaGreatDoorCon
import Derived.Test.YtnkmiphcgjpgkaaGreatDoorShelf
import Derived.Shelf.Strings.Search3
namespace Go.Proofs.YtnkmiphcgjpgkaaGreatDoor.Ls
open Go Vx Con
set_option linter.unusedVariables false
set_option linter.constructorNameAsVariable false
set_option maxRecDepth 100000

theorem alive0 : c0 6 [] (T.full .gone 20) 1 (fun v _ _ => match v with | .b y => (y == true) | _ => false) = true := by kernel_rfl
theorem alive (w : World) : Calls P 6 #[] w fun e w' => e = .returned (.bool true) ∧ RowKit.Below w.heap.size w w' := closed c0_ok alive0 w
noncomputable def aliveC : Ct := fun args h nxt k => match args with
  | [] => k (.b true) h nxt
  | _ => false
theorem aliveC_ok : CtOK P 6 aliveC := by
  apply ctExpr
  intro args ARGS E h nxt w k he ra hr
  unfold aliveC at he
  split at he <;> try (cases he; done)
  have hA : ARGS = #[] := by
    apply Array.ext'
    rw [RvL] at ra
    exact ra
  subst hA
  exact ⟨.b true, h, .bool true, he, by rw [Rv], hr, Fk.refl h, alive w⟩
theorem idx : OfIdx P 139 1 := fun s t m w hs hm => Go.Proofs.Any.strings_Index { Go.Proofs.Tryz.laysM143 with } s t m w hs hm
noncomputable def SL : Specs := fun g => match g with
  | 6 => some aliveC
  | 139 => some (orC (idxC 1) (runC c0 139))
  | g => S2 g
theorem SL_ok : SpecOK P SL := by
  intro g C hC
  unfold SL at hC
  split at hC
  · cases hC; exact aliveC_ok
  · cases hC; exact orC_ok (idxC_ok idx) (runC_ok c0_ok 139)
  · exact S2_ok _ C hC
noncomputable def GL : List (Nat × List AV) := [(1, [.ii .i64])]
noncomputable abbrev s : SE := .sy 3
noncomputable abbrev t : SE := .sy 4
noncomputable abbrev li (n : Int) : SE := .li .i64 n
noncomputable abbrev lS : SE := .len s
noncomputable abbrev lT : SE := .len t
noncomputable abbrev E : SE := .fn 12 lS
noncomputable abbrev TE : SE := .fn 2 E
noncomputable abbrev Bn : SE := .fn 11 TE
noncomputable abbrev sub (x l m : SE) : SE := .fn2 8 x (.fn2 0 l m)
noncomputable abbrev P1 : SE := sub s (li 0) Bn
noncomputable abbrev S0 : SE := sub s (li 0) lS
noncomputable abbrev X : SE := .fn2 7 S0 t
noncomputable abbrev Y : SE := .fn2 4 (li 0) X
noncomputable abbrev Fl : SE := .fn 12 Y
noncomputable abbrev Z : SE := .fn 11 Fl
noncomputable abbrev H : SE := .fn2 4 Z lT
noncomputable abbrev D : SE := .fn2 5 lS lT
noncomputable def mayStr (x : SE) : SE := .fn 10 (packV (.li .u8 4) (.lf 0) x (.li .i64 0))
noncomputable def le (a : SE) (c : Int) (b : Bool) : SE × Bool := (.cmp .leq a (li c), b)
/-- of the strings -/
noncomputable def f0 : Facts := [(mayStr s, true), (mayStr t, true), le lS 4096 true, le lT 4096 true, le lS 0 false]
/-- of the length as a float, and of the part that is all -/
noncomputable def f1 : Facts := [(.cmp .eql E E, true), (.fn 7 E, true), (.cmp .gtr E (.lf 0), true), (.cmp .lss E (.lf 0), false), (.cmp .eql E TE, true), (.cmp .eql TE TE, true), (.fn 7 TE, true),
  le Bn 0 false, le Bn 4096 true, (.cmp .leq Bn lS, true), le (.len P1) 4096 true, le (.fn2 4 (li 0) (.len P1)) 4096 true, (.cmp .eql P1 s, true), (mayStr P1, true), le (.len S0) 4096 true]
/-- it is found -/
noncomputable def fB : Facts := [le X (-1) false, le X 4096 true, le Y (-1) false, le Y 4096 true, (.cmp .eql Fl Fl, true), (.fn 7 Fl, true), le Z (-1) false, le Z 4096 true, (.cmp .leq H lS, true), (.cmp .leq Z H, true), (.cmp .eql (sub s Z H) t, true)]
/-- it is not found, and is too long or not -/
noncomputable def fA1 : Facts := [le X (-1) true, le X (-2) false, (.cmp .gtr lT lS, true), (.cmp .leq lT lS, false), (.cmp .lss lS lT, true)]
noncomputable def fA2 : Facts := [le X (-1) true, le X (-2) false, (.cmp .gtr lT lS, false), (.cmp .leq lT lS, true), (.cmp .lss lS lT, false), (.cmp .eql (sub s (li 0) lT) t, false), le D (-1) false, le D 4096 true, (.cmp .leq D lS, true), (.cmp .eql (sub s D lS) t, false)]
noncomputable def G (fs : Facts) (a b : AV) : Bool := setF fs (startH GL 3) (fun h => run SL 40 3 [a, b] h 5 (fun v h _ => finT v h))
noncomputable def ES : SE := .fn2 7 (.ls 0 0) t
end Go.Proofs.YtnkmiphcgjpgkaaGreatDoor.Ls
