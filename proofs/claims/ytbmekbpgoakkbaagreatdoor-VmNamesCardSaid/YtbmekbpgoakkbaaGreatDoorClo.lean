/- Which functions a function leads to, reckoned with a number's bits in the place of a list of those seen: it is the same list. No condition. -/
import GoSem.ClaimFn
import Derived.Test.YtbmekbpgoakkbaaGreatDoorVxJ
set_option linter.all false
namespace Go.Proofs.YtbmekbpgoakkbaaGreatDoor.Vx
open Go

noncomputable def leads (P : Program) (f : FuncId) : List FuncId := (P.funcs[f]?).elim [] P.leadsTo
noncomputable def leqN (a : List Nat) : List Nat → Bool := List.rec (motive := fun _ => List Nat → Bool) (fun b => List.rec (motive := fun _ => Bool) true (fun _ _ _ => false) b) (fun x _ ih b => List.rec (motive := fun _ => Bool) false (fun y ys _ => bc (Nat.beq x y) (ih ys) false) b) a
theorem leqN_ok : ∀ {a b : List Nat}, leqN a b = true → a = b
  | [], [], _ => rfl
  | [], _ :: _, h => by cases h
  | _ :: _, [], h => by cases h
  | x :: a, y :: b, h => by
    have h : bc (Nat.beq x y) (leqN a b) false = true := h
    obtain ⟨h1, h2⟩ := bc_and h
    rw [Nat.eq_of_beq_eq_true h1, leqN_ok h2]

noncomputable def bitC (m f : Nat) : Bool := Nat.beq (Nat.land (Nat.shiftRight m f) 1) 1
theorem bitC_eq (m f : Nat) : bitC m f = Nat.testBit m f := by
  unfold bitC Nat.testBit
  show Nat.beq ((m >>> f) &&& 1) 1 = (1 &&& (m >>> f) != 0)
  rw [Nat.and_comm 1, Nat.and_one_is_mod]
  rcases Nat.mod_two_eq_zero_or_one (m >>> f) with h | h <;> rw [h] <;> rfl

noncomputable def goB (L : Nat → List Nat) (n : Nat) : List Nat → Nat → List Nat → (List Nat → Bool) → Bool :=
  Nat.rec (motive := fun _ => List Nat → Nat → List Nat → (List Nat → Bool) → Bool) (fun _ _ s k => k s)
    (fun _ ih todo => List.rec (motive := fun _ => Nat → List Nat → (List Nat → Bool) → Bool) (fun _ s k => k s)
      (fun f rest _ m s k => forceN f fun f => bc (bitC m f) (ih rest m s k) (forceN (Nat.lor m (Nat.shiftLeft 1 f)) fun m' => ih (List.append (L f) rest) m' (List.cons f s) k)) todo) n

theorem goB_eq {P : Program} : ∀ (n : Nat) (todo : List Nat) (m : Nat) (s : List Nat) (k : List Nat → Bool), (∀ x, Nat.testBit m x = s.contains x) →
    goB (leads P) n todo m s k = k (P.closureVia n todo s).reverse
  | 0, todo, m, s, k, _ => by
    show k s = k (s.reverse).reverse
    rw [List.reverse_reverse]
  | n + 1, [], m, s, k, _ => by
    show k s = k (s.reverse).reverse
    rw [List.reverse_reverse]
  | n + 1, f :: rest, m, s, k, h => by
    show forceN f (fun f => bc (bitC m f) (goB (leads P) n rest m s k) (forceN (Nat.lor m (Nat.shiftLeft 1 f)) fun m' => goB (leads P) n (List.append (leads P f) rest) m' (List.cons f s) k)) = k (P.closureVia (n + 1) (f :: rest) s).reverse
    rw [forceN_eq, bitC_eq, h f, forceN_eq]
    have e : P.closureVia (n + 1) (f :: rest) s = if s.contains f then P.closureVia n rest s else P.closureVia n ((P.funcs[f]?).elim [] P.leadsTo ++ rest) (f :: s) := by
      rw [Program.closureVia]
    rw [e]
    cases hc : s.contains f with
    | true =>
      show goB (leads P) n rest m s k = _
      rw [goB_eq n rest m s k h, if_pos rfl]
    | false =>
      show goB (leads P) n (List.append (leads P f) rest) (Nat.lor m (Nat.shiftLeft 1 f)) (List.cons f s) k = _
      rw [goB_eq n _ _ _ k (fun x => ?_), if_neg (by simp)]
      · rfl
      · show Nat.testBit (m ||| (1 <<< f)) x = (f :: s).contains x
        rw [Nat.testBit_or, h x, List.contains_cons, Nat.one_shiftLeft, Nat.testBit_two_pow]
        by_cases hx : f = x
        · subst hx; simp
        · rw [decide_eq_false hx, show (x == f) = false from by simpa using fun e => hx e.symm]; simp

theorem closure_of {P : Program} {f : FuncId} {l : List Nat} (h : goB (leads P) (1 + (P.funcs.toList.map fun g => (P.leadsTo g).length + 1).sum) [f] 0 [] (fun s => leqN s l) = true) : P.closure f = l.reverse := by
  rw [goB_eq _ _ _ _ _ (fun x => by simp)] at h
  have := leqN_ok h
  unfold Program.closure
  rw [← this, List.reverse_reverse]
end Go.Proofs.YtbmekbpgoakkbaaGreatDoor.Vx
