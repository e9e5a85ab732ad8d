/- Functions without a body, and a closed run as the row's step wants it. No condition. -/
import Derived.Test.YtamnfcgmbldndaaGreatDoorVxR
import Derived.RowKit3
import GoSem.Extern.Table
set_option linter.unusedVariables false
set_option linter.unusedSimpArgs false
namespace Go.Proofs.YtamnfcgmbldndaaGreatDoor.Vx
open Go

theorem extern_run {P : Program} {g : FuncId} {fn : Func} {e : Array Value → Sem Value} (hfn : P.funcs[g]? = some fn) (hb : fn.body = none) (hn : (fn.name == "runtime.NumGoroutine") = false)
    (hx : Extern.findNext fn = none) (he : Extern.find fn = some e) (x : Value) (w : World) : (callFunc g #[x]).run P w = (do pure (.value (← e #[x])) : Sem Next).run P w := by
  unfold callFunc
  rw [Sem.run_bind, run_program]
  simp only [Result.andThen_ok, hfn, hn, hb, Option.isNone_none, if_true, hx, he]
  rfl

/-- a closed run: what the evaluator answers, the program answers, and of what was there nothing turns -/
theorem closed {P : Program} {call : CallF} (hc : CallOK P call) {g : FuncId} {x : Bool} (he : call g [] (T.full .gone 20) 1 (fun v _ _ => match v with | .b y => (y == x) | _ => false) = true) (w : World) :
    Calls P g #[] w fun e w' => e = .returned (.bool x) ∧ RowKit.Grown w w' := by
  have hr : HR (fun _ => none) (T.full .gone 20) 1 w := by
    have hg : ∀ i, T.get .gone (T.full AO.gone 20) i = .gone := fun i => T.get_full _ _ _
    refine ⟨fun i => by rw [hg]; trivial, fun i j L M hi => ?_, fun i _ => by rw [hg]; rfl, fun _ _ => rfl, fun i L h => (by cases h), Nat.le_refl _, ?_, by rw [hg]; rfl⟩
    · rw [hg] at hi; cases hi
    · unfold Vx.flr; rw [hg]; exact Nat.zero_le _
  refine (hc g [] #[] (fun _ => none) _ 1 w _ he RvL.nil hr).mono ?_
  rintro e w' ⟨V, rfl, v, h', nxt', E', rv, _, gs, hk⟩
  simp only at hk
  split at hk
  case h_2 => cases hk
  rename_i y
  rw [Rv] at rv
  have : y = x := by simpa using hk
  subst this
  refine ⟨by rw [rv], ⟨gs.os, gs.output, fun i hi => ?_⟩, gs.frz, gs.size⟩
  have : w'.heap[i]? = w.heap[i]? := gs.fr i hi (by
    rintro ⟨j, L, _, hl, _, _⟩
    rw [T.get_full] at hl; cases hl)
  rw [this]
  cases hh : w.heap[i]? with
  | none => rfl
  | some o => cases o <;> simp
/-! ### Runs that read package variables -/
/-- the tables at their places, and a floor over them -/
noncomputable def startH (gl : List (Nat × List Value)) (n0 : Nat) : Heap :=
  T.set (.floor n0) (gl.foldr (fun p h => T.set (.glob p.1 p.2.length (wrLs (p.2.map abs1) big 0)) h (p.1 + 1)) (T.full .gone 20)) 0

theorem startH_get (gl : List (Nat × List Value)) (n0 i : Nat) : T.get .gone (startH gl n0) (i + 1) = .gone ∨ ∃ p ∈ gl, p.1 = i ∧ T.get .gone (startH gl n0) (i + 1) = .glob p.1 p.2.length (wrLs (p.2.map abs1) big 0) := by
  unfold startH
  rw [T.get_set_ne _ _ _ _ _ (by omega)]
  induction gl with
  | nil => left; exact T.get_full _ _ _
  | cons p gl ih =>
    rw [List.foldr_cons]
    by_cases e : i + 1 = p.1 + 1
    · have e' : p.1 = i := by omega
      rw [e]
      rcases T.get_set_eq AO.gone (.glob p.1 p.2.length (wrLs (p.2.map abs1) big 0)) (gl.foldr (fun p h => T.set (.glob p.1 p.2.length (wrLs (p.2.map abs1) big 0)) h (p.1 + 1)) (T.full .gone 20)) (p.1 + 1) with g | g
      · right; exact ⟨p, by simp, e', g⟩
      · left; exact g
    · rw [T.get_set_ne _ _ _ _ _ e]
      rcases ih with h | ⟨q, hq, h⟩
      · exact .inl h
      · exact .inr ⟨q, by simp [hq], h⟩

theorem set_ne_nil {x : AO} : ∀ (t : Heap) (i : Nat), t ≠ .nil → T.set x t i ≠ .nil
  | .nil, _, h => absurd rfl h
  | .node v l r, 0, _ => by intro e; cases e
  | .node v l r, i + 1, _ => by
    show Nat.rec (motive := fun _ => T AO) (.node v (T.set x l (i / 2)) r) (fun _ _ => .node v l (T.set x r (i / 2))) (i % 2) ≠ .nil
    rcases T.mod_two i with h | h <;> rw [h] <;> (intro e; cases e)

theorem startH_zero (gl : List (Nat × List Value)) (n0 : Nat) : T.get .gone (startH gl n0) 0 = .floor n0 := by
  unfold startH
  apply get_set0
  induction gl with
  | nil => intro e; cases e
  | cons p gl ih => exact set_ne_nil _ _ ih

/-- what a world holds of the tables -/
def HoldsG (w : World) (gl : List (Nat × List Value)) : Prop := ∀ p ∈ gl, ∃ arr el fr, w.heap[p.1]? = some (.cells arr el fr) ∧ arr.toList = p.2

noncomputable def startE (gl : List (Nat × List Value)) : Env := fun i => if gl.any (fun p => Nat.beq (p.1 + 1) i) then some ⟨i - 1, 0, 0⟩ else none

theorem startE_some {gl : List (Nat × List Value)} {i : Nat} {L : Spot} (h : startE gl i = some L) : ∃ p ∈ gl, p.1 + 1 = i ∧ L = ⟨p.1, 0, 0⟩ := by
  unfold startE at h
  split at h
  · rename_i hh
    obtain ⟨p, hp, e⟩ := List.any_eq_true.1 hh
    have e := Nat.eq_of_beq_eq_true e
    refine ⟨p, hp, e, ?_⟩
    cases h
    subst e; rfl
  · cases h
theorem startE_of {gl : List (Nat × List Value)} {p : Nat × List Value} (hp : p ∈ gl) : startE gl (p.1 + 1) = some ⟨p.1, 0, 0⟩ := by
  unfold startE
  rw [if_pos (List.any_eq_true.2 ⟨p, hp, Nat.beq_refl _⟩)]
  rfl

theorem startH_ok {gl : List (Nat × List Value)} {n0 : Nat} {w : World} (hn : gl.all (fun p => Nat.ble (p.1 + 2) n0) = true) (h1 : Nat.ble 1 n0 = true) (hw : HoldsG w gl) : HR (startE gl) (startH gl n0) n0 w := by
  have hn : ∀ p ∈ gl, p.1 + 2 ≤ n0 := fun p hp => Nat.le_of_ble_eq_true (List.all_eq_true.1 hn p hp)
  have h1 := Nat.le_of_ble_eq_true h1
  have z := startH_zero gl n0
  have fl : flr (startH gl n0) = n0 := by unfold flr; rw [z]
  refine ⟨fun i => ?_, fun i j L M hi hj hL hM e => ?_, fun i hi => ?_, fun i hi => ?_, fun i L hL => ?_, h1, by rw [fl]; exact Nat.le_refl _, by rw [z]; rfl⟩
  · cases i with
    | zero => rw [z]; trivial
    | succ i =>
      rcases startH_get gl n0 i with h | ⟨p, hp, e, h⟩
      · rw [h]; trivial
      · rw [h]
        obtain ⟨arr, el, fr, k1, k2⟩ := hw p hp
        refine ⟨⟨p.1, 0, 0⟩, arr, el, fr, by rw [← e]; exact startE_of hp, ⟨rfl, rfl⟩, k1, by rw [← k2]; simp, fun j hj => ?_⟩
        have := wrLs_new (p.2.map abs1) p.2 (abs1L_ok (startE gl) p.2) j (by simpa using hj)
        rw [← k2] at this ⊢
        simpa using this
  · obtain ⟨p, _, e1, rfl⟩ := startE_some hL
    obtain ⟨q, _, e2, rfl⟩ := startE_some hM
    have e : p.1 = q.1 := e
    omega
  · cases i with
    | zero => omega
    | succ i =>
      rcases startH_get gl n0 i with h | ⟨p, hp, e, h⟩
      · rw [h]; rfl
      · have := hn p hp; omega
  · cases hh : startE gl i with
    | none => rfl
    | some L =>
      obtain ⟨p, hp, e1, _⟩ := startE_some hh
      have := hn p hp; omega
  · obtain ⟨p, hp, _, rfl⟩ := startE_some hL
    obtain ⟨arr, el, fr, k1, _⟩ := hw p hp
    exact (Array.getElem?_eq_some_iff.1 k1).1

theorem startH_fp {gl : List (Nat × List Value)} {n0 : Nat} {w : World} (hr : HR (startE gl) (startH gl n0) n0 w) (k : Nat) : ¬ fp (startE gl) (startH gl n0) k := by
  rintro ⟨i, L, h1, h2, _, _⟩
  have fl : flr (startH gl n0) = n0 := by unfold flr; rw [startH_zero gl n0]
  rw [fl] at h1
  rw [hr.lt i h1] at h2; cases h2

theorem grown_of {E E' : Env} {h h' : Heap} {w w' : World} (gs : Goes E h w E' h' w') (hf : ∀ k, ¬ fp E h k) : RowKit.Grown w w' := by
  refine ⟨⟨gs.os, gs.output, fun i hi => ?_⟩, gs.frz, gs.size⟩
  have : w'.heap[i]? = w.heap[i]? := gs.fr i hi (hf i)
  rw [this]
  cases hh : w.heap[i]? with
  | none => rfl
  | some o => cases o <;> simp

/-- a closed run over package variables -/
theorem closedG {P : Program} {call : CallF} (hc : CallOK P call) {gl : List (Nat × List Value)} {n0 : Nat} {g : FuncId} {x : Bool} (hn : gl.all (fun p => Nat.ble (p.1 + 2) n0) = true) (h1 : Nat.ble 1 n0 = true)
    (he : call g [] (startH gl n0) n0 (fun v _ _ => match v with | .b y => (y == x) | _ => false) = true) (w : World) (hw : HoldsG w gl) :
    Calls P g #[] w fun e w' => e = .returned (.bool x) ∧ RowKit.Grown w w' := by
  have hr := startH_ok hn h1 hw
  refine (hc g [] #[] _ _ n0 w _ he RvL.nil hr).mono ?_
  rintro e w' ⟨V, rfl, v, h', nxt', E', rv, _, gs, hk⟩
  simp only at hk
  split at hk
  case h_2 => cases hk
  rename_i y
  rw [Rv] at rv
  have : y = x := by simpa using hk
  subst this
  exact ⟨by rw [rv], grown_of gs (startH_fp hr)⟩
end Go.Proofs.YtamnfcgmbldndaaGreatDoor.Vx
