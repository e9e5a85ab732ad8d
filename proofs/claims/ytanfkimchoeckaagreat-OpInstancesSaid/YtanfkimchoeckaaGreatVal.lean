/- A value of the program's own struct, opened and shut; the evaluator's helpers. No condition. -/
import Derived.Test.YtanfkimchoeckaaGreatVxZc
import Derived.Test.YtanfkimchoeckaaGreatProg
import Derived.ProofKit
import Derived.OpenShut
import Derived.Laws.Cover2
import Derived.Lib.SmallJoins
namespace Go.Proofs.YtanfkimchoeckaaGreat
open Go.ChangeShapes Go.WideShapes Go.ChangeAt Go.RowKit Go.Joins
set_option linter.unusedVariables false
set_option linter.constructorNameAsVariable false
set_option maxRecDepth 100000

theorem cellsV : Tryz.prog.cellsOf 24 = 4 := by kernel_rfl
section
variable {H : Type} {enc : TypeId × Value → H} {P : Program} {w : World} {base : Nat} {spare : Nat → Bool} {held : Bool}
theorem trod_float {t : TypeId} {k : FloatKind} {fuel : Nat} {cs : List Value} {x : DataW H × List MemPlace} (ht : P.underlying t = some (.float k)) (h : DataW.trod enc P w base spare held fuel t cs = some x) : ∃ n, cs = [.float k n] ∧ x = (.lit (.float k n), []) ∧ (Lit.float k n).wf = true := by
  cases fuel with
  | zero => simp [DataW.trod] at h
  | succ n =>
    unfold DataW.trod at h
    rw [ht] at h
    split at h <;> simp_all
theorem open_val {W : World} {b0 : Nat} {v : Value} {d : DataW H} {p : List MemPlace} (hv : Value.okWide Tryz.prog W .any b0 24 v) (h : DataW.Trod enc Tryz.prog W base spare held 24 v d p) :
    ∃ (c : Int) (x : Nat) (s : ByteArray) (r : Int), v = .agg #[.int .u8 c, .float .f64 x, .string s, .int .i64 r] ∧ d = .agg [.lit (.int .u8 c), .lit (.float .f64 x), .lit (.string s.data.toList), .lit (.int .i64 r)] ∧ p = [] ∧
      (Lit.int .u8 c).wf = true ∧ (Lit.float .f64 x).wf = true ∧ s.size ≤ maxLen ∧ (Lit.int .i64 r).wf = true := by
  obtain ⟨c0, c1, c2, c3, y0, y1, y2, y3, m, rfl, rfl, rfl, h0, h1, h2, h3⟩ := open_agg4 Tryz.underlying24 (by kernel_rfl) cellsV hv h
  obtain ⟨c, e0, rfl, w0⟩ := DataW.trod_int Tryz.underlying5 h0
  obtain ⟨x, e1, rfl, w1⟩ := trod_float Tryz.underlying22 h1
  obtain ⟨s, e2, rfl, w2⟩ := DataW.trod_string Tryz.underlying9 h2
  obtain ⟨r, e3, rfl, w3⟩ := DataW.trod_int Tryz.underlying3 h3
  simp at e0 e1 e2 e3
  subst e0 e1 e2 e3
  exact ⟨c, x, s, r, rfl, rfl, rfl, w0, w1, w2, w3⟩
theorem shut_val {W : World} {c r : Int} {x : Nat} {s : ByteArray} (w0 : (Lit.int .u8 c).wf = true) (w1 : (Lit.float .f64 x).wf = true) (w2 : s.size ≤ maxLen) (w3 : (Lit.int .i64 r).wf = true) :
    DataW.Trod enc Tryz.prog W base spare held 24 (.agg #[.int .u8 c, .float .f64 x, .string s, .int .i64 r]) (.agg [.lit (.int .u8 c), .lit (.float .f64 x), .lit (.string s.data.toList), .lit (.int .i64 r)]) [] :=
  shut_agg4 (y0 := (.lit (.int .u8 c), [])) (y1 := (.lit (.float .f64 x), [])) (y2 := (.lit (.string s.data.toList), [])) (y3 := (.lit (.int .i64 r), [])) Tryz.underlying24 (by kernel_rfl) cellsV
    ⟨1, by simp [DataW.trod, Tryz.underlying5, w0]⟩ ⟨1, by simp [DataW.trod, Tryz.underlying22, w1]⟩ ⟨1, by simp [DataW.trod, Tryz.underlying9, w2]⟩ ⟨1, by simp [DataW.trod, Tryz.underlying3, w3]⟩
end
theorem world_pos {W : World} (h : W.ShapedOpen Tryz.prog) : 0 < W.heap.size := by
  have e : ∃ z t, ((begin Tryz.prog (fun _ _ => 0) default).world.heap[0]?).bind Obj.row? = some (z, t) := by
    have e1 : (((begin Tryz.prog (fun _ _ => 0) default).world.heap[0]?).bind Obj.row?).isSome = true := by kernel_rfl
    cases h0 : ((begin Tryz.prog (fun _ _ => 0) default).world.heap[0]?).bind Obj.row? with
    | none => rw [h0] at e1; cases e1
    | some p => exact ⟨p.1, p.2, rfl⟩
  obtain ⟨z, t, e⟩ := e
  exact Vx.heap_pos h (of_decide_eq_true (by kernel_rfl)) e
theorem len_hasS {s : ByteArray} (h : s.size ≤ maxLen) : Vx.hasS .s (.string s) := ⟨s, rfl, by have : s.size ≤ 9223372036854775807 := h; omega⟩

/-- a value's expressions, from symbol n on -/
noncomputable def valAV (n : Nat) : Vx.AV := .ag [.x (.i .u8) (.sy n), .x .f (.sy (n + 1)), .x .s (.sy (n + 2)), .x (.i .i64) (.sy (n + 3))]
end Go.Proofs.YtanfkimchoeckaaGreat
