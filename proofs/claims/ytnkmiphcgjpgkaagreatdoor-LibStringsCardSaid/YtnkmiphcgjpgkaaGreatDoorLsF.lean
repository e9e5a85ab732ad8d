/- The law LibStrings of bailifflaw23 holds: the given function answers true for any two strings, and turns nothing. No condition. -/
import Derived.Test.YtnkmiphcgjpgkaaGreatDoorCards
import Derived.Test.YtnkmiphcgjpgkaaGreatDoorTie
import Derived.Test.YtnkmiphcgjpgkaaGreatDoorVxZm
import Derived.WalkKit
import Derived.ProofKit
import Derived.OpenShut
import Derived.HandedShaped
import Derived.Deep.DeepHandedRow
import Derived.Lib.LaidTab
import Derived.Test.YtnkmiphcgjpgkaaGreatDoorLsR
namespace Go.Proofs.YtnkmiphcgjpgkaaGreatDoor.Ls
open Go.ChangeShapes Go.WideShapes Go.ChangeAt Go.RowKit
set_option linter.unusedVariables false
set_option linter.constructorNameAsVariable false
set_option maxRecDepth 100000

theorem own : ownKnob Tryz.prog.godebug = none := by kernel_rfl
section
variable {E0 : Vx.Env} {S U : ByteArray}
theorem cmpf {a b : Vx.SE} {m n : Nat} (ha : Vx.den E0 a = some (.float .f64 m)) (hb : Vx.den E0 b = some (.float .f64 n)) : Vx.den E0 (.cmp .gtr a b) = some (.bool (FloatKind.f64.format.order m n == some .gt)) ∧ Vx.den E0 (.cmp .lss a b) = some (.bool (FloatKind.f64.format.order m n == some .lt)) := by
  refine ⟨?_, ?_⟩ <;> simp [Vx.den, ha, hb, Vx.cmpV, Vx.cmpF]
theorem may_str {x : Vx.SE} (hx : Vx.den E0 x = some (.string S)) (hs : (S.size : Int) ≤ 4096) : Vx.den E0 (mayStr x) = some (.bool true) := by
  unfold mayStr
  refine (Vx.den_may rfl rfl hx rfl).trans ?_
  unfold Vx.mayV
  have hz : Vx.feq 0 0 = true := by kernel_rfl
  simp [hz, Vx.may_zero, hs]
theorem le_of {a : Vx.SE} {n c : Int} {b : Bool} (h : Vx.den E0 a = some (.int .i64 n)) (hb : decide (n ≤ c) = b) : Vx.den E0 (le a c b).1 = some (.bool (le a c b).2) := (Vx.fact_le h).trans (by rw [hb]; rfl)
theorem cmpi {a b : Vx.SE} {m n : Int} (ha : Vx.den E0 a = some (.int .i64 m)) (hb : Vx.den E0 b = some (.int .i64 n)) : Vx.den E0 (.cmp .leq a b) = some (.bool (decide (m ≤ n))) ∧ Vx.den E0 (.cmp .gtr a b) = some (.bool (decide (n < m))) ∧ Vx.den E0 (.cmp .lss a b) = some (.bool (decide (m < n))) := by
  refine ⟨?_, ?_, ?_⟩ <;> simp [Vx.den, ha, hb, Vx.cmpV, Vx.cmpI]
theorem cmps {a b : Vx.SE} (ha : Vx.den E0 a = some (.string S)) (hb : Vx.den E0 b = some (.string U)) : Vx.den E0 (.cmp .eql a b) = some (.bool (S.toList == U.toList)) := by
  simp [Vx.den, ha, hb, Vx.cmpV, Vx.cmpS]
theorem sub_of {x l m : Vx.SE} {a b : Int} (hx : Vx.den E0 x = some (.string S)) (hl : Vx.den E0 l = some (.int .i64 a)) (hm : Vx.den E0 m = some (.int .i64 b)) : Vx.den E0 (sub x l m) = some (.string (S.extract a.toNat b.toNat)) := by
  simp [Vx.den, hx, hl, hm, Vx.apf2]
theorem add_of {x y : Vx.SE} {a b : Int} (hx : Vx.den E0 x = some (.int .i64 a)) (hy : Vx.den E0 y = some (.int .i64 b)) (h1 : -9223372036854775808 ≤ a + b) (h2 : a + b ≤ 9223372036854775807) : Vx.den E0 (.fn2 4 x y) = some (.int .i64 (a + b)) := by
  simp [Vx.den, hx, hy, Vx.apf2, h1, h2]
theorem dif_of {x y : Vx.SE} {a b : Int} (hx : Vx.den E0 x = some (.int .i64 a)) (hy : Vx.den E0 y = some (.int .i64 b)) (h1 : -9223372036854775808 ≤ a - b) (h2 : a - b ≤ 9223372036854775807) : Vx.den E0 (.fn2 5 x y) = some (.int .i64 (a - b)) := by
  simp [Vx.den, hx, hy, Vx.apf2, h1, h2]
theorem idx_of {x y : Vx.SE} (hx : Vx.den E0 x = some (.string S)) (hy : Vx.den E0 y = some (.string U)) : Vx.den E0 (.fn2 7 x y) = some (.int .i64 (Lib.index S.data.toList U.data.toList)) := by
  simp only [Vx.den, hx, hy]; rfl
theorem near_of {x : Vx.SE} {n : Int} (hx : Vx.den E0 x = some (.int .i64 n)) : Vx.den E0 (.fn 12 x) = some (.float .f64 (FloatKind.f64.nearest n)) := Vx.den_fn hx rfl
theorem h0 (hs : Vx.den E0 s = some (.string S)) (ht : Vx.den E0 t = some (.string U)) (h1 : 1 ≤ (S.size : Int)) (h2 : (S.size : Int) ≤ 4096) (h3 : (U.size : Int) ≤ 4096) : Vx.Holds E0 f0 := by
  have l1 : Vx.den E0 lS = some (.int .i64 S.size) := Vx.den_len hs
  have l2 : Vx.den E0 lT = some (.int .i64 U.size) := Vx.den_len ht
  exact Vx.holds_cons (may_str hs h2) (Vx.holds_cons (may_str ht h3) (Vx.holds_cons (le_of l1 (by simpa using h2)) (Vx.holds_cons (le_of l2 (by simpa using h3)) (Vx.holds_cons (le_of l1 (decide_eq_false (by omega))) Vx.holds_nil))))
theorem h1 (hs : Vx.den E0 s = some (.string S)) (p1 : 1 ≤ (S.size : Int)) (p2 : (S.size : Int) ≤ 4096) : Vx.Holds E0 f1 := by
  have l1 : Vx.den E0 lS = some (.int .i64 S.size) := Vx.den_len hs
  have e1 : Vx.den E0 E = some (.float .f64 (FloatKind.f64.nearest S.size)) := near_of l1
  have e2 : Vx.den E0 TE = some (.float .f64 (FloatKind.f64.nearest S.size)) := Vx.den_fn e1 (Vx.apf_trunc p1 (by omega))
  have e3 : Vx.den E0 Bn = some (.int .i64 S.size) := Vx.den_fn e2 (Vx.apf_int (by omega) (by omega))
  have e4 : Vx.den E0 (li 0) = some (.int .i64 0) := rfl
  have e5 : Vx.den E0 P1 = some (.string S) := by rw [sub_of hs e4 e3]; simp
  have e6 : Vx.den E0 S0 = some (.string S) := by rw [sub_of hs e4 l1]; simp
  have ns := Vx.near_self (z := S.size) (by omega) (by omega)
  have nm := Vx.near_may (z := S.size) (by omega) (by omega)
  have ng := Vx.near_gtr p1 (by omega : (S.size : Int) ≤ 9007199254740991)
  have eq : ∀ a b, Vx.den E0 a = some (.float .f64 (FloatKind.f64.nearest S.size)) → Vx.den E0 b = some (.float .f64 (FloatKind.f64.nearest S.size)) → Vx.den E0 (.cmp .eql a b) = some (.bool true) := fun a b ha hb => (Vx.den_feq ha hb).trans (by rw [ns])
  have e7 : Vx.den E0 (.fn2 4 (li 0) (.len P1)) = some (.int .i64 (0 + S.size)) := add_of e4 (Vx.den_len e5) (by omega) (by omega)
  refine Vx.holds_cons (eq _ _ e1 e1) (Vx.holds_cons ((Vx.den_fn e1 rfl).trans (by rw [nm])) (Vx.holds_cons ((cmpf e1 (b := .lf 0) rfl).1.trans (by rw [ng]; rfl)) (Vx.holds_cons ((cmpf e1 (b := .lf 0) rfl).2.trans (by rw [ng]; rfl)) (Vx.holds_cons (eq _ _ e1 e2) (Vx.holds_cons (eq _ _ e2 e2) (Vx.holds_cons ((Vx.den_fn e2 rfl).trans (by rw [nm])) (Vx.holds_cons (le_of e3 (decide_eq_false (by omega))) (Vx.holds_cons (le_of e3 (decide_eq_true (by omega))) (Vx.holds_cons ((cmpi e3 l1).1.trans (by simp)) (Vx.holds_cons (le_of (Vx.den_len e5) (decide_eq_true (by omega))) (Vx.holds_cons (le_of e7 (decide_eq_true (by omega))) (Vx.holds_cons ((cmps e5 hs).trans (by simp)) (Vx.holds_cons (may_str e5 p2) (Vx.holds_cons (le_of (Vx.den_len e6) (decide_eq_true (by omega))) Vx.holds_nil))))))))))))))
theorem hX (hs : Vx.den E0 s = some (.string S)) (ht : Vx.den E0 t = some (.string U)) : Vx.den E0 X = some (.int .i64 (Lib.index S.data.toList U.data.toList)) :=
  idx_of (by rw [sub_of hs (a := 0) rfl (Vx.den_len hs)]; simp) ht
theorem hB (hs : Vx.den E0 s = some (.string S)) (ht : Vx.den E0 t = some (.string U)) (p2 : (S.size : Int) ≤ 4096) (p3 : (U.size : Int) ≤ 4096) (hr : 0 ≤ Lib.index S.data.toList U.data.toList) : Vx.Holds E0 fB := by
  have x0 := hX hs ht
  obtain ⟨g1, g2⟩ := Vx.found hr
  generalize Lib.index S.data.toList U.data.toList = r at *
  have l1 : Vx.den E0 lS = some (.int .i64 S.size) := Vx.den_len hs
  have l2 : Vx.den E0 lT = some (.int .i64 U.size) := Vx.den_len ht
  have u0 := Int.natCast_nonneg U.size
  have y0 : Vx.den E0 Y = some (.int .i64 (0 + r)) := add_of rfl x0 (by omega) (by omega)
  rw [Int.zero_add] at y0
  have f : Vx.den E0 Fl = some (.float .f64 (FloatKind.f64.nearest r)) := near_of y0
  have z0 : Vx.den E0 Z = some (.int .i64 r) := Vx.den_fn f (Vx.apf_int hr (by omega))
  have w0 : Vx.den E0 H = some (.int .i64 (r + U.size)) := add_of z0 l2 (by omega) (by omega)
  have ns := Vx.near_self (z := r) (by omega) (by omega)
  have nm := Vx.near_may (z := r) (by omega) (by omega)
  refine Vx.holds_cons (le_of x0 (decide_eq_false (by omega))) (Vx.holds_cons (le_of x0 (decide_eq_true (by omega))) (Vx.holds_cons (le_of y0 (decide_eq_false (by omega))) (Vx.holds_cons (le_of y0 (decide_eq_true (by omega))) (Vx.holds_cons ((Vx.den_feq f f).trans (by rw [ns])) (Vx.holds_cons ((Vx.den_fn f rfl).trans (by rw [nm])) (Vx.holds_cons (le_of z0 (decide_eq_false (by omega))) (Vx.holds_cons (le_of z0 (decide_eq_true (by omega))) (Vx.holds_cons ((cmpi w0 l1).1.trans (by rw [decide_eq_true g1])) (Vx.holds_cons ((cmpi z0 w0).1.trans (by rw [decide_eq_true (by omega)])) (Vx.holds_cons ((cmps (sub_of hs z0 w0) ht).trans (by rw [g2]; simp)) Vx.holds_nil))))))))))
theorem hA1 (hs : Vx.den E0 s = some (.string S)) (ht : Vx.den E0 t = some (.string U)) (hr : Lib.index S.data.toList U.data.toList = -1) (hl : (S.size : Int) < U.size) : Vx.Holds E0 fA1 := by
  have x0 := hX hs ht
  rw [hr] at x0
  have l1 : Vx.den E0 lS = some (.int .i64 S.size) := Vx.den_len hs
  have l2 : Vx.den E0 lT = some (.int .i64 U.size) := Vx.den_len ht
  exact Vx.holds_cons (le_of x0 rfl) (Vx.holds_cons (le_of x0 rfl) (Vx.holds_cons ((cmpi l2 l1).2.1.trans (by rw [decide_eq_true hl])) (Vx.holds_cons ((cmpi l2 l1).1.trans (by rw [decide_eq_false (by omega)])) (Vx.holds_cons ((cmpi l1 l2).2.2.trans (by rw [decide_eq_true hl])) Vx.holds_nil))))
theorem ne_list {a b : ByteArray} (h : a ≠ b) : (a.toList == b.toList) = false := by
  rw [beq_eq_false_iff_ne]
  intro e
  apply h
  rw [ByteArray.toList_eq, ByteArray.toList_eq] at e
  exact ByteArray.ext (Array.ext' e)
theorem hA2 (hs : Vx.den E0 s = some (.string S)) (ht : Vx.den E0 t = some (.string U)) (p2 : (S.size : Int) ≤ 4096) (hr : Lib.index S.data.toList U.data.toList = -1) (hl : (U.size : Int) ≤ S.size) : Vx.Holds E0 fA2 := by
  have x0 := hX hs ht
  rw [hr] at x0
  have l1 : Vx.den E0 lS = some (.int .i64 S.size) := Vx.den_len hs
  have l2 : Vx.den E0 lT = some (.int .i64 U.size) := Vx.den_len ht
  have u0 := Int.natCast_nonneg U.size
  have d0 : Vx.den E0 D = some (.int .i64 ((S.size : Int) - U.size)) := dif_of l1 l2 (by omega) (by omega)
  have n1 : S.extract 0 U.size ≠ U := by
    have := Vx.not_found hr 0 (by omega)
    rwa [Nat.zero_add] at this
  have n2 : S.extract (S.size - U.size) S.size ≠ U := by
    have := Vx.not_found hr (S.size - U.size) (by omega)
    rwa [show S.size - U.size + U.size = S.size by omega] at this
  have e2 : ((S.size : Int) - U.size).toNat = S.size - U.size := by omega
  refine Vx.holds_cons (le_of x0 rfl) (Vx.holds_cons (le_of x0 rfl) (Vx.holds_cons ((cmpi l2 l1).2.1.trans (by rw [decide_eq_false (by omega)])) (Vx.holds_cons ((cmpi l2 l1).1.trans (by rw [decide_eq_true hl])) (Vx.holds_cons ((cmpi l1 l2).2.2.trans (by rw [decide_eq_false (by omega)])) (Vx.holds_cons ((cmps (sub_of hs (a := 0) rfl l2) ht).trans (by rw [Int.toNat_natCast]; exact congrArg (fun b => some (Value.bool b)) (ne_list n1))) (Vx.holds_cons (le_of d0 (decide_eq_false (by omega))) (Vx.holds_cons (le_of d0 (decide_eq_true (by omega))) (Vx.holds_cons ((cmpi d0 l1).1.trans (by rw [decide_eq_true (by omega)])) (Vx.holds_cons ((cmps (sub_of hs d0 l1) ht).trans (by rw [e2, Int.toNat_natCast]; exact congrArg (fun b => some (Value.bool b)) (ne_list n2))) Vx.holds_nil)))))))))
end
end Go.Proofs.YtnkmiphcgjpgkaaGreatDoor.Ls
