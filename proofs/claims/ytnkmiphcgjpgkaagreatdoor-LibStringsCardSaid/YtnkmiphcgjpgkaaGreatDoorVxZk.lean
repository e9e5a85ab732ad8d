/- Some NaN under a name of its own. No condition. -/
import Derived.Test.YtnkmiphcgjpgkaaGreatDoorVxZj
set_option linter.unusedVariables false
set_option linter.unusedSimpArgs false
set_option linter.constructorNameAsVariable false
namespace Go.Proofs.YtnkmiphcgjpgkaaGreatDoor.Vx
open Go
set_option maxRecDepth 100000

noncomputable def addE (E : Env) (n : Nat) (V : Value) : Env := fun i => if i = n then some (spotOf V) else E i
theorem HR.le_add {E : Env} {h : Heap} {nxt : Nat} {w : World} (hr : HR E h nxt w) (V : Value) : E.le (addE E nxt V) := fun i L hi => by
  unfold addE
  by_cases e : i = nxt
  · rw [e, hr.fresh nxt (Nat.le_refl _)] at hi; cases hi
  · rw [if_neg e]; exact hi
theorem HR.add {E : Env} {h : Heap} {nxt : Nat} {w : World} (hr : HR E h nxt w) (V : Value) (hs : 0 < w.heap.size) : HR (addE E nxt V) h (nxt + 1) w := by
  have live : ∀ i, (T.get .gone h i).live = true → addE E nxt V i = E i := fun i hi => by
    unfold addE
    rw [if_neg]
    rintro rfl
    rw [hr.lt i (Nat.le_refl _)] at hi; cases hi
  refine ⟨fun i => (hr.obj i).wide (hr.le_add V), fun i j L M hi hj hL hM e => ?_, fun i hi => hr.lt i (by omega), fun i hi => ?_, fun i L hi => ?_, by omega, by have := hr.flle; omega, hr.zero⟩
  · rw [live i hi] at hL
    rw [live j hj] at hM
    exact hr.inj i j L M hi hj hL hM e
  · unfold addE
    rw [if_neg (by omega)]
    exact hr.fresh i (by omega)
  · unfold addE at hi
    split at hi
    · cases hi; rw [spot_blk]; exact hs
    · exact hr.inw i L hi
theorem HR.goes_add {E : Env} {h : Heap} {nxt : Nat} {w : World} (hr : HR E h nxt w) (V : Value) : Goes E h w (addE E nxt V) h w := by
  refine ⟨hr.le_add V, Nat.le_refl _, fun _ _ _ => rfl, ?_, rfl, fun _ _ => rfl, rfl, rfl, rfl⟩
  rintro k hk ⟨i, L, a1, a2, a3, a4⟩
  refine ⟨i, L, a1, a2, ?_, a4⟩
  unfold addE at a3
  split at a3
  · rename_i e
    rw [e, hr.lt nxt (Nat.le_refl _)] at a2; cases a2
  · exact a3
theorem den_add {E : Env} {n : Nat} {V : Value} (ok : symOK V) : den (addE E n V) (.sy n) = some V := by
  show (addE E n V n).map symV = some V
  unfold addE
  rw [if_pos rfl]
  show some (symV (spotOf V)) = some V
  rw [symV_spot ok]
theorem mayF_of_nan {x : Nat} (h : isNaN64 x) : mayF x = true := mayF_nan (by
  unfold feq
  rw [order_nan (.inl h)]; rfl)
theorem feq_of_nan {x : Nat} (h : isNaN64 x) : feq x x = false := by
  unfold feq
  rw [order_nan (.inl h)]; rfl

/-- some NaN that is answered, under a name of its own -/
noncomputable def renK (G : Nat) (k : K) : K := fun v h n => match v with
  | .tu [.nan, b] => (match T.get .gone h (Nat.succ G) with
    | .glob _ _ _ => setF ((.cmp .eql (.sy n) (.sy n), false) :: (.fn 7 (.sy n), true) :: factsOf h) h fun h1 => forceN (Nat.succ n) fun m => k (.tu [.x .f (.sy n), b]) h1 m
    | _ => false)
  | v => k v h n
noncomputable def renC (G : Nat) (C : Ct) : Ct := fun args h nxt k => C args h nxt (renK G k)
theorem renC_ok {P : Program} {g : FuncId} {G : Nat} {C : Ct} (hC : CtOK P g C) : CtOK P g (renC G C) := by
  intro args ARGS E h nxt w k he ra hr
  refine (hC args ARGS E h nxt w _ he ra hr).mono ?_
  rintro e w' ⟨V, rfl, v, h', n', E', rv, hr', gs, hk⟩
  refine ⟨V, rfl, ?_⟩
  unfold renK at hk
  split at hk
  case h_2 => exact ⟨v, h', n', E', rv, hr', gs, hk⟩
  rename_i b
  split at hk <;> try (cases hk; done)
  rename_i g0 m c hg
  have hs : 0 < w'.heap.size := by
    have ho := hr'.obj (Nat.succ G)
    rw [hg] at ho
    obtain ⟨L, arr, el, fr, _, _, hb, _, _⟩ := ho
    have := (Array.getElem?_eq_some_iff.1 hb).1
    omega
  rw [Rv] at rv
  obtain ⟨vs, rfl, rvs⟩ := rv
  rw [RvL] at rvs
  obtain ⟨X, vs', rfl, rx, rvs⟩ := rvs
  rw [Rv] at rx
  obtain ⟨x, rfl, hx⟩ := rx
  have hd : den (addE E' n' (.float .f64 x)) (.sy n') = some (.float .f64 x) := den_add (sok_f _)
  have hf : Holds (addE E' n' (.float .f64 x)) ((.cmp .eql (.sy n') (.sy n'), false) :: (.fn 7 (.sy n'), true) :: factsOf h') :=
    holds_cons ((den_feq hd hd).trans (by rw [feq_of_nan hx])) (holds_cons ((den_fn hd rfl).trans (by rw [mayF_of_nan hx])) (factsOf_ok (hr'.add _ hs)))
  obtain ⟨h1, k1, k2, k3⟩ := setF_ok hk (hr'.add (.float .f64 x) hs) hf
  rw [forceN_eq] at k1
  refine ⟨_, h1, n' + 1, addE E' n' (.float .f64 x), ?_, k2, (gs.trans (hr'.goes_add _)).trans k3.goes, k1⟩
  rw [Rv]
  exact ⟨_, rfl, rvl_cons (by rw [Rv]; exact ⟨hd, _, rfl, hx.2⟩) (rvs.mono (hr'.le_add _))⟩
end Go.Proofs.YtnkmiphcgjpgkaaGreatDoor.Vx
