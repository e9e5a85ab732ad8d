/- What is known after a call whose contract says that nothing that was there has turned: an evaluator's contract for a function that hands back a new row. No condition. -/
import Derived.Test.YtejghjbbejeipaaGreatVxN
set_option linter.unusedVariables false
set_option linter.unusedSimpArgs false
namespace Go.Proofs.YtejghjbbejeipaaGreat.Vx
open Go

section
variable {E : Env} {h : Heap} {nxt : Nat} {w w' : World}

theorem old_get {x : Obj} {k : Nat} (hb : RowKit.Below w.heap.size w w') (hx : w.heap[k]? = some x) : w'.heap[k]? = some x := by
  have : k < w.heap.size := by
    rcases Nat.lt_or_ge k w.heap.size with hh | hh
    · exact hh
    · rw [Array.getElem?_eq_none hh] at hx; cases hx
  rw [hb.block k this]; exact hx

theorem RO.below {i : Nat} {a : AO} (hb : RowKit.Below w.heap.size w w') (r : RO E w i a) : RO E w' i a := by
  cases a with
  | gone => trivial
  | floor n => trivial
  | cells n e c => obtain ⟨L, arr, el, h1, h2, h3⟩ := r; exact ⟨L, arr, el, h1, old_get hb h2, h3⟩
  | map es c => obtain ⟨L, ms, h1, h2, h3⟩ := r; exact ⟨L, ms, h1, old_get hb h2, h3⟩
  | siter l n p => obtain ⟨L, h1, h2, h3⟩ := r; exact ⟨L, h1, h2, old_get hb h3⟩
  | glob g n c => obtain ⟨L, arr, el, fr, h1, h2, h3, h4⟩ := r; exact ⟨L, arr, el, fr, h1, h2, old_get hb h3, h4⟩

theorem HR.below (hr : HR E h nxt w) (hb : RowKit.Below w.heap.size w w') : HR E h nxt w' :=
  ⟨fun i => (hr.obj i).below hb, hr.inj, hr.lt, hr.fresh, fun i L hi => Nat.lt_of_lt_of_le (hr.inw i L hi) hb.size, hr.pos, hr.flle, hr.zero⟩

theorem Goes.below (hb : RowKit.Below w.heap.size w w') : Goes E h w E h w' :=
  ⟨Env.le_refl _, hb.size, fun k hk _ => hb.block k hk, fun _ _ h => h, rfl, fun _ _ => rfl, hb.os, hb.output, hb.tape⟩

/-- a contract: a new row of these values, and nothing else -/
noncomputable def rowC (t : TypeId) (l : List AV) (n : Nat) : List AV → Heap → Nat → K → Bool := fun args h nxt k => match args with
  | [] => newCells 1 l n ⟨0, some t, true⟩ h nxt (k (.so nxt 0 n 0))
  | _ => false

theorem rowC_ok {P : Program} {g : FuncId} {t : TypeId} {vs : List Value} {n : Nat} (hn : vs.length = n)
    (hc : ∀ w : World, Calls P g #[] w fun e w' => ∃ b cap, e = .returned (.slice (some ⟨b, 0, none⟩) n cap) ∧ w'.ownsRow w.heap.size t 1 (.slice (some ⟨b, 0, none⟩) n cap) n vs ∧ RowKit.Below w.heap.size w w')
    (args : List AV) (ARGS : Array Value) (E : Env) (h : Heap) (nxt : Nat) (w : World) (k : K) (he : rowC t (vs.map abs1) n args h nxt k = true) (ra : RvL E args ARGS.toList) (hr : HR E h nxt w) :
    Calls P g ARGS w fun e w' => ∃ V, e = .returned V ∧ Gives E h w k V w' := by
  unfold rowC at he
  split at he <;> try (cases he; done)
  have hA : ARGS = #[] := by
    rw [RvL] at ra
    apply Array.ext'; simpa using ra
  subst hA
  refine (hc w).mono ?_
  rintro e w' ⟨b, cap, rfl, hrow, hb⟩
  obtain ⟨hl, ⟨hnil, _⟩ | ⟨b', cap', cur, hv, hbase, hg, h1, h2, h3, h4⟩⟩ := hrow
  · cases hnil
  obtain ⟨rfl, rfl⟩ : b = b' ∧ cap = cap' := by simpa using hv
  unfold newCells at he
  rw [wrC_eq, T.setK_eq, forceN_eq] at he
  have hr' := hr.below hb
  have hlt : b < w'.heap.size := (Array.getElem?_eq_some_iff.1 hg).1
  have hcur : n ≤ cur.size := by rw [h3]; omega
  have e1 : ∀ j, j < n → vs.getD j undef = cur.getD j undef := fun j hj => by
    rw [← h4]
    simp [List.getElem?_take, hj]
  have no : ∀ i M, (T.get AO.gone h i).live = true → E i = some M → M.blk ≠ b := fun i M _ hM => by
    have := hr.inw i M hM
    omega
  have hle := Env.le_set (hr'.fresh nxt (Nat.le_refl _)) ⟨b, 0, cap⟩
  have ad := hr'.adopt ⟨b, 0, cap⟩ hlt no (.cells n ⟨0, some t, true⟩ (wrCs (vs.map abs1) ⟨1, bigR⟩ 0)) ⟨⟨b, 0, cap⟩, cur, t, by simp, by simpa using hg, by simpa using hcur, Esz.ok_new _ _ _ _ _, fun j hj => by
    have := wrCs_new (E := fun i => if i = nxt then some ⟨b, 0, cap⟩ else E i) 1 (vs.map abs1) vs (abs1L_ok _ vs) j (by simpa [hn] using hj)
    rw [e1 j hj] at this
    simpa using this⟩
  refine ⟨_, rfl, _, _, _, _, ?_, ad, (Goes.below hb).adopt hr' ⟨b, 0, cap⟩ hbase _, he⟩
  rw [Rv]
  exact ⟨⟨b, 0, cap⟩, by simp, by simp, by simpa using h1⟩
end
end Go.Proofs.YtejghjbbejeipaaGreat.Vx
