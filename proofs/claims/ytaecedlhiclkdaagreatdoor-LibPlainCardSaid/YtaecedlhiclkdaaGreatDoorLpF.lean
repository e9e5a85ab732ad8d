/- LibPlain: whole numbers as floats: their order, their sums. No condition. -/
import Derived.Test.YtaecedlhiclkdaaGreatDoorVxZs
import Derived.Test.YtaecedlhiclkdaaGreatDoorLpN
namespace Go.Proofs.YtaecedlhiclkdaaGreatDoor.Lp
open Go Vx
set_option linter.unusedVariables false
set_option linter.constructorNameAsVariable false
set_option maxRecDepth 100000

theorem near_num {z : Int} (h1 : -9007199254740991 ≤ z) (h2 : z ≤ 9007199254740991) : ∃ m i, FloatKind.f64.format.read (FloatKind.f64.nearest z) = .number (decide (z < 0)) m i ∧ i ≤ 0 ∧ m = z.natAbs * 2 ^ (-i).toNat := by
  by_cases h0 : z = 0
  · subst h0
    exact ⟨0, -1074, by kernel_rfl, by decide, (Nat.zero_mul _).symm⟩
  · have hd : FloatKind.f64.format.read (FloatKind.f64.nearest z) = _ := near_decode h1 h2 h0
    have hl := log_le (m := z.natAbs) (by omega) (by omega)
    exact ⟨_, _, hd, by omega, by rw [show (-((z.natAbs.log2 : Int) - 52)).toNat = 52 - z.natAbs.log2 by omega]⟩
theorem signed_near {z i base : Int} {m : Nat} (hi : i ≤ 0) (hb : base ≤ i) (hm : m = z.natAbs * 2 ^ (-i).toNat) : Ieee.signed (decide (z < 0)) m (i - base).toNat = z * ((2 ^ (-base).toNat : Nat) : Int) := by
  have e : m * 2 ^ (i - base).toNat = z.natAbs * 2 ^ (-base).toNat := by
    rw [hm, Nat.mul_assoc, ← Nat.pow_add]
    congr 2
    omega
  unfold Ieee.signed
  rw [Nat.shiftLeft_eq, e]
  by_cases hz : z < 0
  · rw [if_pos (decide_eq_true hz), Int.natCast_mul]
    rw [show ((z.natAbs : Nat) : Int) = -z by omega, Int.neg_mul, Int.neg_neg]
  · rw [if_neg (by simpa using hz), Int.natCast_mul]
    rw [show ((z.natAbs : Nat) : Int) = z by omega]
theorem cmp_mul {a b : Int} {p : Nat} (hp : 0 < p) : compare (a * (p : Int)) (b * (p : Int)) = compare a b := by
  have hp : (0 : Int) < p := Int.natCast_pos.2 hp
  rcases Int.lt_trichotomy a b with h | h | h
  · rw [cmp_lt h, cmp_lt (Int.mul_lt_mul_of_pos_right h hp)]
  · subst h
    rw [(icmp_eq _ _).2 rfl, (icmp_eq _ _).2 rfl]
  · rw [cmp_gt h, cmp_gt (Int.mul_lt_mul_of_pos_right h hp)]
theorem order_near {a b : Int} (a1 : -9007199254740991 ≤ a) (a2 : a ≤ 9007199254740991) (b1 : -9007199254740991 ≤ b) (b2 : b ≤ 9007199254740991) : FloatKind.f64.format.order (FloatKind.f64.nearest a) (FloatKind.f64.nearest b) = some (compare a b) := by
  obtain ⟨m, i, hm, hi, em⟩ := near_num a1 a2
  obtain ⟨n, j, hn, hj, en⟩ := near_num b1 b2
  have e1 := signed_near hi (Int.min_le_left i j) em
  have e2 := signed_near hj (Int.min_le_right i j) en
  clear em en
  generalize FloatKind.f64.nearest a = x at *
  generalize FloatKind.f64.nearest b = y at *
  have hp := Nat.two_pow_pos (-(min i j)).toNat
  generalize (2 : Nat) ^ (-(min i j)).toNat = p at *
  unfold Ieee.Format.order
  rw [hm, hn, order_numbers, e1, e2, cmp_mul hp]
theorem near_signF (f : Ieee.Format) (s : Bool) (m : Nat) (i : Int) (hm : m ≠ 0) : f.nearest s m i = f.word s (f.nearest false m i) := by
  unfold Ieee.Format.nearest
  rw [if_neg hm, if_neg hm]
  cases s <;> rfl
theorem near_sign {s : Bool} {m : Nat} {i : Int} (hm : m ≠ 0) : FloatKind.f64.format.nearest s m i = FloatKind.f64.format.word s (FloatKind.f64.format.nearest false m i) := near_signF _ s m i hm
theorem near_scaleS {s : Bool} {m k : Nat} (hm : 0 < m) (hM : m < 9007199254740992) : FloatKind.f64.format.nearest s (m * 2 ^ k) (-(k : Int)) = FloatKind.f64.format.nearest s m 0 := by
  rw [near_sign (Nat.ne_of_gt (Nat.mul_pos hm (Nat.two_pow_pos k))), near_scale hm hM, near_sign (Nat.ne_of_gt hm), near_wb hm hM]
theorem add_near {a b : Int} (a1 : -9007199254740991 ≤ a) (a2 : a ≤ 9007199254740991) (b1 : -9007199254740991 ≤ b) (b2 : b ≤ 9007199254740991) (c1 : -9007199254740991 ≤ a + b) (c2 : a + b ≤ 9007199254740991) : FloatKind.f64.format.add (FloatKind.f64.nearest a) (FloatKind.f64.nearest b) = some (FloatKind.f64.nearest (a + b)) := by
  obtain ⟨m, i, hm, hi, em⟩ := near_num a1 a2
  obtain ⟨n, j, hn, hj, en⟩ := near_num b1 b2
  have e1 := signed_near hi (Int.min_le_left i j) em
  have e2 := signed_near hj (Int.min_le_right i j) en
  have e3 : FloatKind.f64.nearest (a + b) = FloatKind.f64.format.nearest (decide (a + b < 0)) (a + b).natAbs 0 := rfl
  rw [e3]
  clear em en e3
  generalize FloatKind.f64.nearest a = x at *
  generalize FloatKind.f64.nearest b = y at *
  have hp := Nat.two_pow_pos (-(min i j)).toNat
  have hmin : min i j = -(((-(min i j)).toNat : Nat) : Int) := by omega
  generalize hk : (-(min i j)).toNat = k at *
  have hpi : (0 : Int) < ((2 ^ k : Nat) : Int) := Int.natCast_pos.2 hp
  unfold Ieee.Format.add
  rw [hm, hn, sum_numbers, e1, e2, ← Int.add_mul, Option.map_some]
  show some (FloatKind.f64.format.nearest _ _ _) = _
  congr 1
  rw [Int.natAbs_mul, Int.natAbs_natCast]
  by_cases h0 : a + b = 0
  · rw [h0, Int.zero_mul, if_pos rfl]
    have e : (decide (a < 0) && decide (b < 0)) = false := by
      rw [Bool.and_eq_false_iff]
      by_cases ha : a < 0
      · exact .inr (decide_eq_false (by omega))
      · exact .inl (decide_eq_false ha)
    rw [e]
    unfold Ieee.Format.nearest
    rw [if_pos (by simp), if_pos (by simp)]
    rfl
  · have hne : (a + b) * ((2 ^ k : Nat) : Int) ≠ 0 := Int.mul_ne_zero h0 (Int.ne_of_gt hpi)
    rw [if_neg hne]
    have es : decide ((a + b) * ((2 ^ k : Nat) : Int) < 0) = decide (a + b < 0) := by
      by_cases hn : a + b < 0
      · rw [decide_eq_true hn, decide_eq_true (Int.mul_neg_of_neg_of_pos hn hpi)]
      · rw [decide_eq_false hn, decide_eq_false (by have := Int.mul_nonneg (show 0 ≤ a + b by omega) (Int.le_of_lt hpi); omega)]
    rw [es, hmin]
    exact near_scaleS (by omega) (by omega)
theorem trunc_near {z : Int} (h1 : -9007199254740991 ≤ z) (h2 : z ≤ 9007199254740991) : ∃ s m i, FloatKind.f64.decode (FloatKind.f64.nearest z) = .number s m i ∧ FloatKind.f64.encode ((FloatKind.f64.decode (FloatKind.f64.nearest z)).integral .zero) = FloatKind.f64.nearest z := by
  by_cases h0 : z = 0
  · subst h0
    exact ⟨false, 0, -1074, by kernel_rfl, by kernel_rfl⟩
  · have hd := near_decode h1 h2 h0
    refine ⟨_, _, _, hd, ?_⟩
    rw [hd, near_trunc (by omega) (by omega)]
    rfl
/-- a float that may be: no number, or a whole one -/
theorem may_near {x : Nat} (hx : x < 18446744073709551616) (hm : mayF x = true) (hs : feq x x = true) : ∃ z : Int, (-9007199254740991 ≤ z ∧ z ≤ 9007199254740991) ∧ x = FloatKind.f64.nearest z := by
  by_cases h0 : feq x 0 = true
  · refine ⟨0, by decide, ?_⟩
    rcases zero_word hx h0 with rfl | rfl
    · kernel_rfl
    · rw [may_nzero] at hm; cases hm
  · obtain ⟨X, hX, hx2, _⟩ := may_wb hx hm hs
    have hX0 : X ≠ 0 := fun e => by
      subst e
      rw [wb_zero] at hx2
      have : x = 0 ∨ x = 9223372036854775808 := by omega
      rcases this with rfl | rfl
      · exact h0 (by kernel_rfl)
      · rw [may_nzero] at hm; cases hm
    have hw := near_wb (m := X) (by omega) hX
    have hlt := wb_lt hX
    rcases Nat.lt_or_ge x 9223372036854775808 with h | h
    · refine ⟨X, ⟨by omega, by omega⟩, ?_⟩
      show x = FloatKind.f64.format.nearest (decide ((X : Int) < 0)) (X : Int).natAbs 0
      rw [decide_eq_false (by omega), Int.natAbs_natCast, hw]
      omega
    · refine ⟨-(X : Int), ⟨by omega, by omega⟩, ?_⟩
      show x = FloatKind.f64.format.nearest (decide (-(X : Int) < 0)) (-(X : Int)).natAbs 0
      rw [decide_eq_true (by omega), Int.natAbs_neg, Int.natAbs_natCast, near_sign hX0, hw]
      show x = FloatKind.f64.format.signWeight + wb X
      rw [fsw]
      omega
end Go.Proofs.YtaecedlhiclkdaaGreatDoor.Lp
