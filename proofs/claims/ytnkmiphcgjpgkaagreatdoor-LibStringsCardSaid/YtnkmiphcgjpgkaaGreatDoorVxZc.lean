/- What the laws over given values ask of floats, facts and the world's shape. No condition. -/
import Derived.Test.YtnkmiphcgjpgkaaGreatDoorVxZb
import Derived.OpenShut
set_option linter.unusedVariables false
set_option linter.unusedSimpArgs false
set_option linter.constructorNameAsVariable false
namespace Go.Proofs.YtnkmiphcgjpgkaaGreatDoor.Vx
open Go

theorem datum_self (d : Ieee.Datum) : d.order d = some .eq ∨ ∃ s m, d = .nan s m := by
  cases d with
  | nan s m => exact .inr ⟨s, m, rfl⟩
  | infinity s => left; cases s <;> rfl
  | number s m i =>
    left
    show some (compare (Ieee.signed s m (i - min i i).toNat) (Ieee.signed s m (i - min i i).toNat)) = some .eq
    congr 1
    show compareOfLessAndEq _ _ = .eq
    unfold compareOfLessAndEq
    rw [if_neg (Int.lt_irrefl _), if_pos rfl]
theorem order_self (x : Nat) : FloatKind.f64.format.order x x = some .eq ∨ isNaN0 x := by
  rcases datum_self (FloatKind.f64.format.read x) with h | ⟨s, m, h⟩
  · exact .inl h
  · exact .inr ⟨s, m, h⟩
theorem fact_feq {E : Env} {e : SE} {x c : Nat} (h : den E e = some (.float .f64 x)) : den E (.cmp .eql e (.lf c)) = some (.bool (FloatKind.f64.format.order x c == some .eq)) := by
  simp only [den, h, cmpV, Option.map, cmpF]
theorem fact_self {E : Env} {e : SE} {x : Nat} (h : den E e = some (.float .f64 x)) : den E (.cmp .eql e e) = some (.bool (FloatKind.f64.format.order x x == some .eq)) := by
  simp only [den, h, cmpV, Option.map, cmpF]
/-- is a float not a number, it is like none; else it is like itself -/
theorem float_two (x : Nat) : (FloatKind.f64.format.order x x == some .eq) = true ∨ ∀ c, (FloatKind.f64.format.order x x == some .eq) = false ∧ (FloatKind.f64.format.order x c == some .eq) = false := by
  rcases order_self x with h | h
  · left; rw [h]; rfl
  · right; intro c
    rw [order_nan0 (.inl h), order_nan0 (.inl h)]; exact ⟨rfl, rfl⟩

theorem heap_pos {P : Program} {w : World} (h : w.ShapedOpen P) {z : Array Value} {t : TypeId} (hg : 0 < P.globals.size) (hz : ((begin P (fun _ _ => 0) default).world.heap[0]?).bind Obj.row? = some (z, t)) : 0 < w.heap.size := by
  obtain ⟨cs, hc, _⟩ := h.1 0 z t hg hz
  exact (Array.getElem?_eq_some_iff.1 hc).1
theorem wf_u8 {n : Int} (h : (Lit.int .u8 n).wf = true) : IntKind.min .u8 ≤ n ∧ n ≤ IntKind.max .u8 := bounds_u8 h
theorem wf_i64 {n : Int} (h : (Lit.int .i64 n).wf = true) : IntKind.min .i64 ≤ n ∧ n ≤ IntKind.max .i64 := bounds_i64 h
theorem wf_f64 {x : Nat} (h : (Lit.float .f64 x).wf = true) : x < 18446744073709551616 := by simpa [Lit.wf] using h
theorem holds_nil {E : Env} : Holds E [] := fun _ h => by cases h
theorem holds_cons {E : Env} {p : SE × Bool} {fs : Facts} (h : den E p.1 = some (.bool p.2)) (k : Holds E fs) : Holds E (p :: fs) := fun q hq => by
  rcases List.mem_cons.1 hq with rfl | hq
  · exact h
  · exact k q hq
theorem rvl_nil {E : Env} : RvL E [] [] := by simp [RvL]
theorem rvl_cons {E : Env} {a : AV} {v : Value} {as : List AV} {vs : List Value} (h : Rv E a v) (k : RvL E as vs) : RvL E (a :: as) (v :: vs) := by
  rw [RvL]; exact ⟨v, vs, rfl, h, k⟩
theorem rv_ag {E : Env} {cs : List AV} {vs : List Value} (h : RvL E cs vs) : Rv E (.ag cs) (.agg vs.toArray) := by
  rw [Rv]; exact ⟨vs, rfl, h⟩
theorem rv_b {E : Env} (x : Bool) : Rv E (.b x) (.bool x) := by rw [Rv]
end Go.Proofs.YtnkmiphcgjpgkaaGreatDoor.Vx
