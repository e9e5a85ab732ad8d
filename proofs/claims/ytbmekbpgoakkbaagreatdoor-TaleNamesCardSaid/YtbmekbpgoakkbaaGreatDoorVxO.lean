/- Regions that draw their order: one order that stands for all. No condition. -/
import Derived.Test.YtbmekbpgoakkbaaGreatDoorVxK
set_option linter.unusedVariables false
set_option linter.unusedSimpArgs false
set_option linter.constructorNameAsVariable false
set_option linter.unusedSectionVars false
namespace Go.Proofs.YtbmekbpgoakkbaaGreatDoor.Vx
open Go

section
variable {P : Program} {ops : Array Oper} {Q : Exit → Act → World → Prop}

/-- an edge that binds -/
def Dir (ops : Array Oper) (j i : Nat) : Prop := ∃ o, ops[j]? = some o ∧ ∃ e ∈ o.after, Region.binds .any e = true ∧ e.on = i

inductive Reach (ops : Array Oper) : Nat → Nat → Prop
  | one {j i : Nat} : Dir ops j i → Reach ops j i
  | more {j k i : Nat} : Dir ops j k → Reach ops k i → Reach ops j i

def Closed (ops : Array Oper) (listed : Array Bool) : Prop := ∀ j i, listed.getD j false = true → Dir ops j i → listed.getD i false = true

abbrev rdy (ops : Array Oper) (listed : Array Bool) : List Nat := Region.ready .any ops listed

theorem rdy_dir {listed : Array Bool} {j i : Nat} (h : j ∈ rdy ops listed) (d : Dir ops j i) : listed.getD i false = true := by
  obtain ⟨_, o, ho, hall⟩ := mem_ready.1 h
  obtain ⟨o', ho', e, he, hb, rfl⟩ := d
  rw [ho] at ho'; cases ho'
  exact hall e he hb

theorem Closed.reach {listed : Array Bool} (c : Closed ops listed) {j i : Nat} (r : Reach ops j i) : listed.getD j false = true → listed.getD i false = true := by
  induction r with
  | one d => exact fun h => c _ _ h d
  | more d _ ih => exact fun h => ih (c _ _ h d)

theorem Closed.rdy {listed : Array Bool} (c : Closed ops listed) {j i : Nat} (h : j ∈ rdy ops listed) (r : Reach ops j i) : listed.getD i false = true := by
  cases r with
  | one d => exact rdy_dir h d
  | more d r => exact c.reach r (rdy_dir h d)

theorem Closed.set {listed : Array Bool} (c : Closed ops listed) {j : Nat} (h : j ∈ Vx.rdy ops listed) : Closed ops (listed.setIfInBounds j true) := by
  intro k i hk d
  refine getD_set_true ?_
  by_cases e : j = k
  · subst e; exact rdy_dir h d
  · rw [getD_set_ne false e] at hk; exact c _ _ hk d

theorem not_listed {listed : Array Bool} {i : Nat} (h : i ∈ rdy ops listed) : listed.getD i false = false := by
  have h0 := (mem_ready.1 h).1
  rcases Nat.lt_or_ge i listed.size with h' | h'
  · simp [h'] at h0 ⊢; exact h0
  · simp [Array.getElem?_eq_none h']

abbrev Fr := Nat → (World → Prop) → Prop
def Fr.rest (ops : Array Oper) (j : Nat) (F : Fr) : Fr := fun i I => F i I ∧ ¬ Reach ops j i
def Fr.kept (F : Fr) (w w' : World) : Prop := ∀ i I, F i I → I w → I w'
def Fr.add (F : Fr) (i : Nat) (I : World → Prop) : Fr := fun k J => F k J ∨ (k = i ∧ J = I)

def wpF (P : Program) (ops : Array Oper) (Q : Exit → Act → World → Prop) : Nat → Fr → Array Bool → Act → World → Prop
  | 0, _, listed, a, w => rdy ops listed = [] ∧ Q .normal a w
  | n + 1, F, listed, a, w => (rdy ops listed = [] → Q .normal a w) ∧ ∀ i ∈ rdy ops listed,
      wpOp P ops Q i (fun a' w' => (F.rest ops i).kept w w' ∧ wpF P ops Q n (F.rest ops i) (listed.setIfInBounds i true) a' w') a w

theorem wpF.any : ∀ {n : Nat} {F : Fr} {listed : Array Bool} {a : Act} {w : World}, wpF P ops Q n F listed a w → wpAny P .any ops Q n listed a w
  | 0, _, _, _, _, h => h
  | _ + 1, _, _, _, _, h => ⟨h.1, fun i hi => wpOp_mono (fun _ _ hh => hh.2.any) (h.2 i hi)⟩

theorem wpF.sub : ∀ {n : Nat} {F F' : Fr} {listed : Array Bool} {a : Act} {w : World}, (∀ i I, F' i I → F i I) → wpF P ops Q n F listed a w → wpF P ops Q n F' listed a w
  | 0, _, _, _, _, _, _, h => h
  | _ + 1, _, _, _, _, _, s, h => ⟨h.1, fun i hi => wpOp_mono (fun _ _ hh => ⟨fun k I hk hI => hh.1 k I ⟨s _ _ hk.1, hk.2⟩ hI, hh.2.sub fun k I hk => ⟨s _ _ hk.1, hk.2⟩⟩) (h.2 i hi)⟩

/-- the operation yields 'v' in every world of which 'I' holds -/
def YI (P : Program) (ops : Array Oper) (I : World → Prop) (o : Oper) (v : Value) (a : Act) : Prop :=
  (Region.wanted o (yielded ops a.tmps) = true ∧ ∀ w, I w → (execOp a.eval o).run P w = .ok (.value v) w) ∨
  (Region.wanted o (yielded ops a.tmps) = false ∧ v = undef)

theorem YI.wpOp {I : World → Prop} {i : Nat} {o : Oper} {v : Value} {a : Act} (hi : ops[i]? = some o) (hy : YI P ops I o v a)
    {K : Act → World → Prop} {w : World} (hI : I w) (h : K (a.put o.dst v) w) : wpOp P ops Q i K a w := by
  unfold Go.wpOp
  simp only [hi]
  rcases hy with ⟨hw, hv⟩ | ⟨hw, rfl⟩
  · simp only [hw, if_true, Oper.wp, hv w hI, Oper.upon]; exact .inl h
  · simp only [hw, Bool.false_eq_true, if_false]; exact h

theorem YI.same {I : World → Prop} {o : Oper} {v : Value} {a a' : Act} (hy : YI P ops I o v a) (he : execOp a'.eval o = execOp a.eval o)
    (hw : Region.wanted o (yielded ops a'.tmps) = Region.wanted o (yielded ops a.tmps)) : YI P ops I o v a' := by
  unfold YI at *
  rw [he, hw]
  exact hy

theorem wpOp_put' {I : World → Prop} {j : Nat} {oi oj : Oper} {v : Value} (hj : ops[j]? = some oj) (hap : oi.apart ops oj = true)
    (hsi : ∀ cs b, oi.op ≠ .select cs b) (hsj : ∀ cs b, oj.op ≠ .select cs b)
    (hQ : ∀ c a w, Q (.panic c) (a.put oi.dst v) w → Q (.panic c) a w) (hL : ¬ LetsOut Q) {K : Act → World → Prop} {a : Act} {w : World}
    (hy : YI P ops I oi v a) (h : wpOp P ops Q j K (a.put oi.dst v) w) :
    wpOp P ops Q j (fun a' w' => YI P ops I oi v a' ∧ K (a'.put oi.dst v) w') a w := by
  obtain ⟨h1, h2, h3⟩ := Oper.apart_spec hap
  have keep : ∀ (a : Act), YI P ops I oi v a → ∀ u, YI P ops I oi v (a.put oj.dst u) := fun a hy u =>
    hy.same (execOp_put oi hsi a oj.dst u h3) (wanted_put oi a oj.dst u h3)
  have keepD : ∀ d, YI P ops I oi v { a with defers := d :: a.defers } := fun d => hy.same rfl rfl
  unfold wpOp at *
  simp only [hj] at *
  rw [wanted_put oj a oi.dst v h1] at h
  by_cases hw : Region.wanted oj (yielded ops a.tmps) = true
  · rw [if_pos hw] at *
    rcases h with h | ⟨_, hlets⟩
    case inr => exact absurd hlets hL
    refine .inl ?_
    unfold Oper.wp at *
    rw [execOp_put oj hsj a oi.dst v h1] at h
    generalize (execOp a.eval oj).run P w = r at *
    cases r with
    | ok n w' =>
      cases n <;> simp only [Oper.upon] at h ⊢
      case value u => exact ⟨keep a hy u, by rw [← Act.put_comm a v u h2]; exact h⟩
      case skip => exact ⟨keep a hy _, by rw [← Act.put_comm a v undef h2]; exact h⟩
      case defer d =>
        refine ⟨keep _ (keepD d) _, ?_⟩
        rw [← Act.put_comm _ v undef h2, ← Act.put_defers]
        exact h
      case enter f args =>
        refine Calls.mono h fun e w'' he => ?_
        cases e with
        | returned u => exact ⟨keep a hy u, by rw [← Act.put_comm a v u h2]; exact he⟩
        | panicked c => exact hQ _ _ _ he
        | outgrown => exact he
      case row row args => exact Rows.mono h fun u w'' he => ⟨keep a hy u, by rw [← Act.put_comm a v u h2]; exact he⟩
    | halt x w' =>
      cases x <;> simp only [Oper.upon] at h ⊢
      case panic u => exact hQ _ _ _ h
  · rw [if_neg hw] at *
    exact ⟨keep a hy _, by rw [← Act.put_comm a v undef h2]; exact h⟩

theorem wpF.take {i : Nat} {oi : Oper} {v : Value} {I : World → Prop} (hi : ops[i]? = some oi) (hs : Region.noSelect ops = true) (hQ : ∀ c a w, Q (.panic c) (a.put oi.dst v) w → Q (.panic c) a w) (hL : ¬ LetsOut Q) :
    ∀ (n : Nat) (F : Fr) (listed : Array Bool) (a : Act) (w : World), Closed ops listed →
      (∀ j oj, ops[j]? = some oj → j ≠ i → listed.getD j true = false → ¬ Reach ops j i → oi.apart ops oj = true) →
      i ∈ rdy ops listed → YI P ops I oi v a → I w → wpF P ops Q n (F.add i I) (listed.setIfInBounds i true) (a.put oi.dst v) w → wpF P ops Q (n + 1) F listed a w := by
  intro n
  induction n with
  | zero =>
    intro F listed a w _ _ hr hy hI H
    refine ⟨fun h => (by rw [h] at hr; cases hr), fun j hj => ?_⟩
    by_cases hji : j = i
    · subst hji; exact hy.wpOp hi hI ⟨fun _ _ _ hh => hh, H⟩
    · have := ready_mono hj hji
      have h0 : Region.ready .any ops (listed.setIfInBounds i true) = [] := H.1
      rw [h0] at this
      cases this
  | succ n ih =>
    intro F listed a w hc hfree hr hy hI H
    refine ⟨fun h => (by rw [h] at hr; cases hr), fun j hj => ?_⟩
    by_cases hji : j = i
    · subst hji
      exact hy.wpOp hi hI ⟨fun _ _ _ hh => hh, H.sub fun k J hk => .inl hk.1⟩
    · have h1 := H.2 j (ready_mono hj hji)
      obtain ⟨hjun, oj, hoj, hall⟩ := mem_ready.1 hj
      have hnot : ¬ Reach ops j i := fun r => by
        have e := hc.rdy hj r
        rw [not_listed hr] at e
        cases e
      have h2 := wpOp_put' hoj (hfree j oj hoj hji hjun hnot) (fun cs b => Region.noSelect_spec hs i oi cs b hi) (fun cs b => Region.noSelect_spec hs j oj cs b hoj) hQ hL hy h1
      refine wpOp_mono (fun a' w' h3 => ?_) h2
      obtain ⟨h4, h5, h6⟩ := h3
      refine ⟨fun k J hk hJ => h5 k J ⟨.inl hk.1, hk.2⟩ hJ, ?_⟩
      refine ih _ _ a' w' (hc.set hj) ?_ (ready_mono hr (Ne.symm hji)) h4 (h5 i I ⟨.inr ⟨rfl, rfl⟩, hnot⟩ hI) ?_
      · intro k ok hk hki hun hno
        refine hfree k ok hk hki ?_ hno
        by_cases hjk : j = k
        · subst hjk; exact hjun
        · rw [getD_set_ne true hjk] at hun; exact hun
      · rw [Array.setIfInBounds_comm _ _ hji]
        refine h6.sub fun k J hk => ?_
        rcases hk with hk | ⟨rfl, rfl⟩
        · exact ⟨.inl hk.1, hk.2⟩
        · exact ⟨.inr ⟨rfl, rfl⟩, hnot⟩

theorem wpF.step {j n : Nat} {F : Fr} {listed : Array Bool} {a : Act} {w : World} (hj : j ∈ rdy ops listed) (hone : ∀ k ∈ rdy ops listed, k = j)
    (h : wpOp P ops Q j (fun a' w' => (F.rest ops j).kept w w' ∧ wpF P ops Q n (F.rest ops j) (listed.setIfInBounds j true) a' w') a w) : wpF P ops Q (n + 1) F listed a w :=
  ⟨fun h => (by rw [h] at hj; cases hj), fun k hk => by rw [hone k hk]; exact h⟩
end
end Go.Proofs.YtbmekbpgoakkbaaGreatDoor.Vx
