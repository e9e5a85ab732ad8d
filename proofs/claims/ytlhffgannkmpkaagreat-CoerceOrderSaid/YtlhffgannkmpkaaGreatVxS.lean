/- Functions without a body, and a closed run as the row's step wants it. No condition. -/
import Derived.Test.YtlhffgannkmpkaaGreatVxR
import Derived.RowKit3
import GoSem.Extern.Table
set_option linter.unusedVariables false
set_option linter.unusedSimpArgs false
namespace Go.Proofs.YtlhffgannkmpkaaGreat.Vx
open Go

theorem extern_run {P : Program} {g : FuncId} {fn : Func} {e : Array Value → Sem Value} (hfn : P.funcs[g]? = some fn) (hb : fn.body = none) (hn : (fn.name == "runtime.NumGoroutine") = false)
    (hx : Extern.findNext fn = none) (he : Extern.find fn = some e) (x : Value) (w : World) : (callFunc g #[x]).run P w = (do pure (.value (← e #[x])) : Sem Next).run P w := by
  unfold callFunc
  rw [Sem.run_bind, run_program]
  simp only [Result.andThen_ok, hfn, hn, hb, Option.isNone_none, if_true, hx, he]
  rfl

/-- a closed run: what the evaluator answers, the program answers, and of what was there nothing turns -/
theorem closed {P : Program} {call : CallF} (hc : CallOK P call) {g : FuncId} {x : Bool} (he : call g [] (T.full .gone 20) 1 (fun v _ _ => match v with | .b y => (y == x) | _ => false) = true) (w : World) :
    Calls P g #[] w fun e w' => e = .returned (.bool x) ∧ RowKit.Grown w w' := by
  have hr : HR (fun _ => none) (T.full .gone 20) 1 w := by
    have hg : ∀ i, T.get .gone (T.full AO.gone 20) i = .gone := fun i => T.get_full _ _ _
    refine ⟨fun i => by rw [hg]; trivial, fun i j L M hi => ?_, fun i _ => by rw [hg]; rfl, fun _ _ => rfl, fun i L h => (by cases h), Nat.le_refl _, ?_, by rw [hg]; rfl⟩
    · rw [hg] at hi; cases hi
    · unfold Vx.flr; rw [hg]; exact Nat.zero_le _
  refine (hc g [] #[] (fun _ => none) _ 1 w _ he RvL.nil hr).mono ?_
  rintro e w' ⟨V, rfl, v, h', nxt', E', rv, _, gs, hk⟩
  simp only at hk
  split at hk
  case h_2 => cases hk
  rename_i y
  rw [Rv] at rv
  have : y = x := by simpa using hk
  subst this
  refine ⟨by rw [rv], ⟨gs.os, gs.output, fun i hi => ?_⟩, gs.frz, gs.size⟩
  have : w'.heap[i]? = w.heap[i]? := gs.fr i hi (by
    rintro ⟨j, L, _, hl, _, _⟩
    rw [T.get_full] at hl; cases hl)
  rw [this]
  cases hh : w.heap[i]? with
  | none => rfl
  | some o => cases o <;> simp
end Go.Proofs.YtlhffgannkmpkaaGreat.Vx
