/- The first place of a text in another as an expression. No condition. -/
import Derived.Test.YtnkmiphcgjpgkaaGreatDoorVxZk
set_option linter.unusedVariables false
set_option linter.unusedSimpArgs false
set_option linter.constructorNameAsVariable false
namespace Go.Proofs.YtnkmiphcgjpgkaaGreatDoor.Vx
open Go
set_option maxRecDepth 100000

noncomputable def idxC (G : Nat) : Ct := fun args h nxt k => match args with
  | [.x .s a, .x .s b] => someInt h G (bc (belowS (.len a) 4096 (factsOf h)) (k (.x (.i .i64) (.fn2 7 a b)) h nxt) false)
  | [.s 0 0, .x .s b] => someInt h G (k (.x (.i .i64) (.fn2 7 (.ls 0 0) b)) h nxt)
  | _ => false
def OfIdx (P : Program) (g G : Nat) : Prop := ∀ (s t : ByteArray) (m : Int) (w : World), s.size < 4294967281 → w.cell? ⟨G, 0, none⟩ = some (.int .i64 m) → Calls P g #[.string s, .string t] w fun e w' => e = .returned (.int .i64 (Lib.index s.data.toList t.data.toList)) ∧ w' = w
theorem index_leL (s t : List UInt8) : Lib.index s t ≤ s.length := by
  induction s with
  | nil => unfold Lib.index; split <;> simp
  | cons b l ih =>
    unfold Lib.index
    split
    · exact Int.natCast_nonneg _
    · split
      · have := Int.natCast_nonneg (b :: l).length; omega
      · rw [List.length_cons]; omega
theorem idxC_ok {P : Program} {g G : Nat} (H : OfIdx P g G) : CtOK P g (idxC G) := by
  apply ctExpr
  intro args ARGS E h nxt w k he ra hr
  have fin : ∀ (a b : SE) (s t : ByteArray), den E a = some (.string s) → den E b = some (.string t) → (s.size : Int) ≤ 4096 → (∃ m, w.cell? ⟨G, 0, none⟩ = some (.int .i64 m)) → ARGS = #[.string s, .string t] → k (.x (.i .i64) (.fn2 7 a b)) h nxt = true →
      ∃ v h1 U, k v h1 nxt = true ∧ Rv E v U ∧ HR E h1 nxt w ∧ Fk h h1 ∧ Calls P g ARGS w fun e w' => e = .returned U ∧ RowKit.Below w.heap.size w w' := by
    intro a b s t da db h1 hm hA he
    obtain ⟨m, hm⟩ := hm
    subst hA
    refine ⟨_, h, .int .i64 (Lib.index s.data.toList t.data.toList), he, ?_, hr, Fk.refl h, (H s t m w (by omega) hm).mono fun e w' ⟨he, hw⟩ => ⟨he, by rw [hw]; exact RowKit.Below.refl _ _⟩⟩
    rw [Rv]
    have e1 : IntKind.i64.min = -9223372036854775808 := rfl
    have e2 : IntKind.i64.max = 9223372036854775807 := rfl
    have l1 := Lib.index_ge s.data.toList t.data.toList
    have l2 := index_leL s.data.toList t.data.toList
    have l3 : s.data.toList.length = s.size := Array.length_toList
    exact ⟨by simp only [den, da, db]; rfl, _, rfl, by omega, by omega⟩
  unfold idxC at he
  split at he <;> try (cases he; done)
  · rename_i a b
    obtain ⟨he, hm⟩ := someInt_ok he hr
    obtain ⟨h1, he⟩ := bc_and he
    obtain ⟨X, Y, hA, rx, ry⟩ := ra.two
    rw [Rv] at rx ry
    obtain ⟨da, s, rfl, hs⟩ := rx
    obtain ⟨db, t, rfl, ht⟩ := ry
    have h1 := belowS_ok (factsOf_ok hr) (.len a) (k := .i64) (n := s.size) (by simp only [den, da]) h1
    exact fin a b s t da db h1 hm (by apply Array.ext'; simpa using hA) he
  · rename_i b
    obtain ⟨he, hm⟩ := someInt_ok he hr
    obtain ⟨X, Y, hA, rx, ry⟩ := ra.two
    rw [Rv] at rx
    rw [Rv] at ry
    subst rx
    obtain ⟨db, t, rfl, ht⟩ := ry
    exact fin (.ls 0 0) b (str 0 0) t rfl db (by decide) hm (by apply Array.ext'; simpa using hA) he
end Go.Proofs.YtnkmiphcgjpgkaaGreatDoor.Vx
