/- CoercePlain: what is taken by contract, and the runs. No condition. -/
import Derived.Test.YtdplmegbnceijaaGreatDoorCon
import Derived.Test.YtdplmegbnceijaaGreatDoorRead
import Derived.Test.YtdplmegbnceijaaGreatDoorFmt
namespace Go.Proofs.YtdplmegbnceijaaGreatDoor.Pl
open Go Vx Con
set_option linter.unusedVariables false
set_option linter.constructorNameAsVariable false
set_option maxRecDepth 100000

theorem alive0 : c0 4 [] (T.full .gone 20) 1 (fun v _ _ => match v with | .b y => (y == true) | _ => false) = true := by kernel_rfl
theorem alive (w : World) : Calls P 4 #[] w fun e w' => e = .returned (.bool true) ∧ RowKit.Below w.heap.size w w' := closed c0_ok alive0 w
noncomputable def aliveC : Ct := fun args h nxt k => match args with
  | [] => k (.b true) h nxt
  | _ => false
theorem aliveC_ok : CtOK P 4 aliveC := by
  apply ctExpr
  intro args ARGS E h nxt w k he ra hr
  unfold aliveC at he
  split at he <;> try (cases he; done)
  have hA : ARGS = #[] := by
    apply Array.ext'
    rw [RvL] at ra
    exact ra
  subst hA
  exact ⟨.b true, h, .bool true, he, by rw [Rv], hr, Fk.refl h, alive w⟩
noncomputable def SL : Specs := fun g => match g with
  | 4 => some aliveC
  | 24 => some (orC readC (runC c0 24))
  | 105 => some (orC (fmtC 4) (runC c0 105))
  | 12 => some (renC 4 (runC c2 12))
  | g => S2 g
theorem SL_ok : SpecOK P SL := by
  intro g C hC
  unfold SL at hC
  split at hC
  · cases hC; exact aliveC_ok
  · cases hC; exact orC_ok (readC_ok Read.read) (runC_ok c0_ok 24)
  · cases hC; exact orC_ok (fmtC_ok Fmt.fmt) (runC_ok c0_ok 105)
  · cases hC; exact renC_ok (runC_ok c2_ok 12)
  · exact S2_ok _ C hC
noncomputable def GL : List (Nat × List AV) := [(4, tabAVs 20 8)]
/-- what is known of a form's symbol; a text's worth may be -/
noncomputable def fs (i n : Nat) : Facts := match i with
  | 5 => (.fn 7 (.fn 5 (.sy n)), true) :: formFs 5 n
  | i => formFs i n
theorem fs_ok {E : Env} {i n : Nat} {S V : Value} (h : formOK i S V) (hd : den E (.sy n) = some S) (hf : Holds E (formFs i n)) : Holds E (fs i n) := by
  unfold fs
  split
  · obtain ⟨s, rfl, _, _⟩ := h
    refine holds_cons (((den_fn (c := 7) (den_fn (c := 5) hd rfl) rfl)).trans ?_) hf
    rw [read_may]
  · exact hf
noncomputable def GF (more : Facts) (i j : Nat) : Bool := setF (more ++ (fs i 6 ++ fs j 7)) (startH GL 6) (fun h => run SL 40 3 [formAV i 6, formAV j 7] h 28 (fun v h _ => finT v h))
noncomputable def G (i j : Nat) : Bool := GF [] i j
def kindsV : List TypeDesc := [.int .u8, .float .f64, .string, .int .i64]
noncomputable def B (fs : Facts) : Bool := setF fs (startH [] 1) (fun h => run SL 40 3 [.ag (leafAVs kindsV 1), .ag (leafAVs kindsV 5)] h 9 (fun v h _ => finT v h))
noncomputable def m1 : SE := .fn 10 (packV (.sy 1) (.sy 2) (.sy 3) (.sy 4))
noncomputable def m2 : SE := .fn 10 (packV (.sy 5) (.sy 6) (.sy 7) (.sy 8))
end Go.Proofs.YtdplmegbnceijaaGreatDoor.Pl
