/- Floats that are whole numbers of 53 bits: what is known of their words. No condition. -/
import Derived.Test.YtbmekbpgoakkbaaGreatDoorVxDb
import Derived.Laws.FloatBits
set_option linter.unusedVariables false
set_option linter.unusedSimpArgs false
set_option linter.constructorNameAsVariable false
set_option linter.unusedSectionVars false
namespace Go.Proofs.YtbmekbpgoakkbaaGreatDoor.Vx
open Go

theorem wrap_in0 {k : IntKind} {n : Int} (h1 : k.min ≤ n) (h2 : n ≤ k.max) : k.wrap n = n := by
  unfold IntKind.wrap
  cases k <;> simp [IntKind.min, IntKind.max, IntKind.bits, IntKind.signed] at * <;> omega
theorem datum_self0 (d : Ieee.Datum) : d.order d = some .eq ∨ ∃ s m, d = .nan s m := by
  cases d with
  | nan s m => exact .inr ⟨s, m, rfl⟩
  | infinity s => left; cases s <;> rfl
  | number s m i =>
    left
    show some (compare (Ieee.signed s m (i - min i i).toNat) (Ieee.signed s m (i - min i i).toNat)) = some .eq
    congr 1
    show compareOfLessAndEq _ _ = .eq
    unfold compareOfLessAndEq
    rw [if_neg (Int.lt_irrefl _), if_pos rfl]
theorem order_self0 (x : Nat) : FloatKind.f64.format.order x x = some .eq ∨ ∃ s m, FloatKind.f64.format.read x = .nan s m := datum_self0 _

theorem read_safe : FloatKind.f64.format.read 0x433fffffffffffff = .number false 9007199254740991 0 := by kernel_rfl
theorem read_nsafe : FloatKind.f64.format.read 0xc33fffffffffffff = .number true 9007199254740991 0 := by kernel_rfl
theorem fsw : FloatKind.f64.format.signWeight = 2 ^ 63 := rfl

theorem cut_zero (s : Bool) (m d : Nat) : Ieee.Toward.zero.cut s m d = m / (1 <<< min d (m.log2 + 2)) := by
  unfold Ieee.Toward.cut
  simp
theorem cut_le {s : Bool} {m d S : Nat} (h : m ≤ S * 2 ^ d) : Ieee.Toward.zero.cut s m d ≤ S := by
  rw [cut_zero, Nat.one_shiftLeft]
  rcases Nat.le_total d (m.log2 + 2) with hd | hd
  · rw [Nat.min_eq_left hd]
    exact Nat.div_le_of_le_mul (by rw [Nat.mul_comm]; exact h)
  · rw [Nat.min_eq_right hd]
    have : m < 2 ^ (m.log2 + 2) := Nat.lt_of_lt_of_le Nat.lt_log2_self (Nat.pow_le_pow_right (by omega) (by omega))
    rw [Nat.div_eq_of_lt this]
    omega

theorem cmp_int_le {A B : Int} (h : (some (compare A B) == some Ordering.lt || some (compare A B) == some Ordering.eq) = true) : A ≤ B := by
  have : compare A B = .lt ∨ compare A B = .eq := by simpa using h
  rcases this with h | h
  · have : A < B := by
      rw [show compare A B = compareOfLessAndEq A B from rfl] at h
      unfold compareOfLessAndEq at h
      split at h
      · assumption
      · split at h <;> cases h
    omega
  · rw [icmp_eq] at h; omega
theorem cmp_int_ge {A B : Int} (h : (some (compare A B) == some Ordering.gt || some (compare A B) == some Ordering.eq) = true) : B ≤ A := by
  have : compare A B = .gt ∨ compare A B = .eq := by simpa using h
  rcases this with h | h
  · rw [show compare A B = compareOfLessAndEq A B from rfl] at h
    unfold compareOfLessAndEq at h
    split at h
    · cases h
    · split at h
      · cases h
      · omega
  · rw [icmp_eq] at h; omega
theorem cmp_int_le_iff {A B : Int} : (some (compare A B) == some Ordering.lt || some (compare A B) == some Ordering.eq) = decide (A ≤ B) := by
  rw [Bool.eq_iff_iff, decide_eq_true_iff]
  refine ⟨cmp_int_le, fun h => ?_⟩
  rw [show compare A B = compareOfLessAndEq A B from rfl]
  unfold compareOfLessAndEq
  split
  · rfl
  · rw [if_pos (by omega)]; rfl
theorem cmp_int_ge_iff {A B : Int} : (some (compare A B) == some Ordering.gt || some (compare A B) == some Ordering.eq) = decide (B ≤ A) := by
  rw [Bool.eq_iff_iff, decide_eq_true_iff]
  refine ⟨cmp_int_ge, fun h => ?_⟩
  rw [show compare A B = compareOfLessAndEq A B from rfl]
  unfold compareOfLessAndEq
  rw [if_neg (by omega)]
  split <;> rfl

/-- a number's size against the greatest one of ours -/
theorem cut_safe {m : Nat} {i : Int} {t : Bool} (h : Ieee.signed false m (i - min i 0).toNat ≤ Ieee.signed false 9007199254740991 (0 - min i 0).toNat) : Ieee.Toward.zero.cut t (m <<< i.toNat) (-i).toNat ≤ 9007199254740991 := by
  unfold Ieee.signed at h
  simp only [Bool.false_eq_true, if_false] at h
  have h : m <<< (i - min i 0).toNat ≤ 9007199254740991 <<< (0 - min i 0).toNat := by exact_mod_cast h
  apply cut_le
  rw [Nat.shiftLeft_eq] at *
  rw [Nat.shiftLeft_eq] at h
  rcases Int.le_total i 0 with hi | hi
  · rw [Int.min_eq_left hi] at h
    have e1 : (i - i).toNat = 0 := by omega
    have e2 : (0 - i).toNat = (-i).toNat := by omega
    have e3 : i.toNat = 0 := by omega
    rw [e1, e2] at h
    rw [e3]
    simpa using h
  · rw [Int.min_eq_right hi] at h
    have e1 : (i - 0).toNat = i.toNat := by omega
    have e2 : (0 - 0 : Int).toNat = 0 := rfl
    have e3 : (-i).toNat = 0 := by omega
    rw [e1, e2] at h
    rw [e3]
    simpa using h

theorem f2i_num {x : Nat} {s : Bool} {m : Nat} {i : Int} (h : FloatKind.f64.decode x = .number s m i) : f2i x = Ieee.signed s (Ieee.Toward.zero.cut s (m <<< i.toNat) (-i).toNat) 0 := by
  unfold f2i; rw [h]; rfl
theorem signed_bound {s : Bool} {M S : Nat} (h : M ≤ S) : -(S : Int) ≤ Ieee.signed s M 0 ∧ Ieee.signed s M 0 ≤ S := by
  unfold Ieee.signed
  cases s <;> simp <;> omega

theorem signed_tf (m u : Nat) : Ieee.signed true m u = -Ieee.signed false m u := by unfold Ieee.signed; simp

/-- by its place between the least and the greatest of ours -/
theorem num_of_between {x : Nat} (h1 : cmpF .leq x 0x433fffffffffffff = some true) (h2 : cmpF .geq x 0xc33fffffffffffff = some true) :
    ∃ s m i, FloatKind.f64.decode x = .number s m i ∧ Ieee.signed false m (i - min i 0).toNat ≤ Ieee.signed false 9007199254740991 (0 - min i 0).toNat := by
  simp only [cmpF, Option.some.injEq] at h1 h2
  unfold Ieee.Format.order at h1 h2
  rw [read_safe] at h1
  rw [read_nsafe] at h2
  have e : FloatKind.f64.decode x = FloatKind.f64.format.read x := rfl
  rw [e]
  cases hd : FloatKind.f64.format.read x with
  | nan s t => rw [hd] at h1; cases h1
  | infinity s => rw [hd] at h1 h2; cases s <;> first | (cases h1; done) | (cases h2; done)
  | number s m i =>
    rw [hd] at h1 h2
    refine ⟨s, m, i, rfl, ?_⟩
    have h1 := cmp_int_le h1
    have h2 := cmp_int_ge h2
    cases s
    · exact h1
    · rw [signed_tf, signed_tf] at h2; omega
theorem f2i_between {x : Nat} (h1 : cmpF .leq x 0x433fffffffffffff = some true) (h2 : cmpF .geq x 0xc33fffffffffffff = some true) :
    (∃ s m i, FloatKind.f64.decode x = .number s m i) ∧ -9007199254740991 ≤ f2i x ∧ f2i x ≤ 9007199254740991 := by
  obtain ⟨s, m, i, h, hb⟩ := num_of_between h1 h2
  refine ⟨⟨s, m, i, h⟩, ?_⟩
  rw [f2i_num h]
  exact signed_bound (cut_safe hb)

/-! ### Without its sign -/
theorem absF_eq {x : Nat} (hx : x < 18446744073709551616) : absF x = x % 2 ^ 63 := by
  unfold absF
  have e0 : (~~~BitVec.ofInt 64 9223372036854775808).toNat = 2 ^ 63 - 1 := by decide
  have e1 : (BitVec.ofInt 64 (x : Int) &&& ~~~BitVec.ofInt 64 9223372036854775808).toNat = x % 2 ^ 63 := by
    rw [BitVec.toNat_and, e0, Nat.and_two_pow_sub_one_eq_mod]
    have : (BitVec.ofInt 64 (x : Int)).toNat = x := by
      rw [BitVec.toNat_ofInt]; omega
    rw [this]
  rw [e1]
  have hlt : x % 2 ^ 63 < 2 ^ 63 := Nat.mod_lt _ (by decide)
  have : IntKind.u64.wrap ((x % 2 ^ 63 : Nat) : Int) = ((x % 2 ^ 63 : Nat) : Int) := by
    apply wrap_in0 <;> (simp [IntKind.min, IntKind.max, IntKind.bits, IntKind.signed]; try omega)
  rw [this]; rfl
theorem read_abs (x : Nat) : FloatKind.f64.format.read (x % 2 ^ 63) = (match FloatKind.f64.format.read x with
    | .number _ m i => .number false m i
    | .infinity _ => .infinity false
    | .nan _ t => .nan false t) := by
  unfold Ieee.Format.read
  rw [fsw]
  have e1 : x % 2 ^ 63 / 2 ^ 63 % 2 = 0 := by omega
  have e2 : x % 2 ^ 63 % 2 ^ 63 = x % 2 ^ 63 := by omega
  simp only [e1, e2]
  have e3 : ((0 : Nat) == 1) = false := rfl
  rw [e3]
  split
  · rfl
  · split
    · rfl
    · split <;> rfl
theorem num_of_abs {x : Nat} (hx : x < 18446744073709551616) (hs : feq x x = true) (h : fle (absF x) 0x433fffffffffffff = true) :
    ∃ s m i, FloatKind.f64.decode x = .number s m i ∧ Ieee.signed false m (i - min i 0).toNat ≤ Ieee.signed false 9007199254740991 (0 - min i 0).toNat := by
  unfold fle at h
  unfold feq at hs
  unfold Ieee.Format.order at h hs
  rw [absF_eq hx, read_abs, read_safe] at h
  have e : FloatKind.f64.decode x = FloatKind.f64.format.read x := rfl
  rw [e]
  cases hd : FloatKind.f64.format.read x with
  | nan s t => rw [hd] at hs; cases hs
  | infinity s => rw [hd] at h; cases h
  | number s m i =>
    rw [hd] at h
    exact ⟨s, m, i, rfl, cmp_int_le h⟩
theorem may_self {x : Nat} (h : mayF x = true) (hs : feq x x = true) : fle (absF x) 0x433fffffffffffff = true := by
  unfold mayF at h
  rw [hs] at h
  simp at h
  exact h.1.2
theorem num_of_may {x : Nat} (hx : x < 18446744073709551616) (h : mayF x = true) (hs : feq x x = true) : ∃ s m i, FloatKind.f64.decode x = .number s m i := by
  obtain ⟨s, m, i, h, _⟩ := num_of_abs hx hs (may_self h hs)
  exact ⟨s, m, i, h⟩
theorem f2i_may {x : Nat} (hx : x < 18446744073709551616) (h : mayF x = true) (hs : feq x x = true) : -9007199254740991 ≤ f2i x ∧ f2i x ≤ 9007199254740991 := by
  obtain ⟨s, m, i, h, hb⟩ := num_of_abs hx hs (may_self h hs)
  rw [f2i_num h]
  exact signed_bound (cut_safe hb)

/-! ### Whole numbers, by conversion -/
theorem order_zero_word (s : Bool) (x : Nat) : FloatKind.f64.format.order (FloatKind.f64.format.word s 0) x = FloatKind.f64.format.order 0 x := by
  cases s
  · rfl
  · unfold Ieee.Format.order
    have e1 : FloatKind.f64.format.read (FloatKind.f64.format.word true 0) = .number true 0 (-1074) := by kernel_rfl
    have e2 : FloatKind.f64.format.read 0 = .number false 0 (-1074) := by kernel_rfl
    rw [e1, e2]
    cases FloatKind.f64.format.read x <;> simp [Ieee.Datum.order, Ieee.signed]
theorem feq_near {x : Nat} {s : Bool} {m : Nat} {i : Int} (h : FloatKind.f64.decode x = .number s m i) (y : Nat) : feq (FloatKind.f64.nearest (f2i x)) y = feq (truncF x) y := by
  rw [f2i_num h]
  unfold truncF
  rw [h]
  show feq _ y = feq (FloatKind.f64.encode (.number s (Ieee.Toward.zero.cut s (m <<< i.toNat) (-i).toNat) 0)) y
  generalize Ieee.Toward.zero.cut s (m <<< i.toNat) (-i).toNat = M
  unfold FloatKind.nearest
  by_cases hM : M = 0
  · subst hM
    have e0 : Ieee.signed s 0 0 = 0 := by cases s <;> rfl
    rw [e0]
    have e1 : FloatKind.f64.encode (.number s 0 0) = FloatKind.f64.format.word s 0 := rfl
    have e2 : FloatKind.f64.encode (.number (decide ((0 : Int) < 0)) (0 : Int).natAbs 0) = FloatKind.f64.format.word false 0 := rfl
    rw [e1, e2]
    unfold feq
    rw [order_zero_word s, order_zero_word false]
  · have e1 : decide (Ieee.signed s M 0 < 0) = s := by
      unfold Ieee.signed
      cases s <;> simp <;> omega
    have e2 : (Ieee.signed s M 0).natAbs = M := by
      unfold Ieee.signed
      cases s <;> simp
    rw [e1, e2]
theorem near_lt (n : Int) : FloatKind.f64.nearest n < 18446744073709551616 := Ieee.Format.write_lt FloatKind.f64.format (.number (decide (n < 0)) n.natAbs 0)

/-- may it be: by its place, and by its whole number -/
theorem mayF_whole {x : Nat} (hx : x < 18446744073709551616) (hs : feq x x = true) (h0 : feq x 0 = false) :
    mayF x = (decide (cmpF .geq x 0xc33fffffffffffff = some true) && (decide (cmpF .leq x 0x433fffffffffffff = some true) && feq (FloatKind.f64.nearest (f2i x)) x)) := by
  unfold mayF
  rw [hs, h0]
  simp only [Bool.not_true, Bool.false_or, Bool.not_false, Bool.true_or, Bool.and_true]
  have e : FloatKind.f64.decode x = FloatKind.f64.format.read x := rfl
  unfold feq Ieee.Format.order at hs
  cases hd : FloatKind.f64.format.read x with
  | nan s t => rw [hd] at hs; cases hs
  | infinity s =>
    have e1 : fle (absF x) 0x433fffffffffffff = false := by
      unfold fle Ieee.Format.order
      rw [absF_eq hx, read_abs, read_safe, hd]; rfl
    rw [e1, Bool.and_false]
    simp only [cmpF, Ieee.Format.order, read_safe, read_nsafe, hd]
    cases s <;> rfl
  | number s m i =>
    clear hs h0
    rw [feq_near (s := s) (m := m) (i := i) (by rw [e, hd])]
    have e1 : fle (absF x) 0x433fffffffffffff = decide (Ieee.signed false m (i - min i 0).toNat ≤ Ieee.signed false 9007199254740991 (0 - min i 0).toNat) := by
      unfold fle Ieee.Format.order
      rw [absF_eq hx, read_abs, read_safe, hd]
      exact cmp_int_le_iff
    have e2 : (cmpF .leq x 0x433fffffffffffff = some true) ↔ Ieee.signed s m (i - min i 0).toNat ≤ Ieee.signed false 9007199254740991 (0 - min i 0).toNat := by
      simp only [cmpF, Ieee.Format.order, read_safe, hd, Ieee.Datum.order]
      rw [cmp_int_le_iff]; simp
    have e3 : (cmpF .geq x 0xc33fffffffffffff = some true) ↔ Ieee.signed true 9007199254740991 (0 - min i 0).toNat ≤ Ieee.signed s m (i - min i 0).toNat := by
      simp only [cmpF, Ieee.Format.order, read_nsafe, hd, Ieee.Datum.order]
      rw [cmp_int_ge_iff]; simp
    rw [e1, Bool.eq_iff_iff]
    simp only [Bool.and_eq_true, decide_eq_true_iff, e2, e3]
    have p1 : ∀ n u, 0 ≤ Ieee.signed false n u := fun n u => by
      unfold Ieee.signed
      rw [if_neg (by simp)]
      exact Int.natCast_nonneg _
    have q1 := p1 m (i - min i 0).toNat
    have q2 := p1 9007199254740991 (0 - min i 0).toNat
    cases s
    · rw [signed_tf]
      exact ⟨fun ⟨a, b⟩ => ⟨by omega, b, a⟩, fun ⟨_, b, a⟩ => ⟨a, b⟩⟩
    · rw [signed_tf, signed_tf]
      exact ⟨fun ⟨a, b⟩ => ⟨by omega, by omega, a⟩, fun ⟨b, _, a⟩ => ⟨a, by omega⟩⟩
theorem mayF_nan {x : Nat} (hs : feq x x = false) : mayF x = true := by unfold mayF; rw [hs]; rfl

/-- a sum of numbers is a number -/
theorem add_num {x y : Nat} (hx : ∃ s m i, FloatKind.f64.decode x = .number s m i) (hy : ∃ s m i, FloatKind.f64.decode y = .number s m i) : ∃ r, FloatKind.f64.format.add x y = some r ∧ r < 18446744073709551616 := by
  obtain ⟨s, m, i, hx⟩ := hx
  obtain ⟨t, n, j, hy⟩ := hy
  have hx : FloatKind.f64.format.read x = _ := hx
  have hy : FloatKind.f64.format.read y = _ := hy
  unfold Ieee.Format.add
  rw [hx, hy]
  exact ⟨_, rfl, Ieee.Format.write_lt FloatKind.f64.format _⟩
theorem sub_num {x y : Nat} (hx : ∃ s m i, FloatKind.f64.decode x = .number s m i) (hy : ∃ s m i, FloatKind.f64.decode y = .number s m i) : ∃ r, FloatKind.f64.format.sub x y = some r ∧ r < 18446744073709551616 := by
  obtain ⟨s, m, i, hx⟩ := hx
  obtain ⟨t, n, j, hy⟩ := hy
  have hx : FloatKind.f64.format.read x = _ := hx
  have hy : FloatKind.f64.format.read y = _ := hy
  unfold Ieee.Format.sub
  rw [hx, hy]
  exact ⟨_, rfl, Ieee.Format.write_lt FloatKind.f64.format _⟩
theorem add_nan {x y : Nat} (h : feq x x = false ∨ feq y y = false) : FloatKind.f64.format.add x y = none := by
  have key : ∀ z, feq z z = false → ∃ s t, FloatKind.f64.format.read z = .nan s t := fun z hz => by
    rcases order_self0 z with h | h
    · unfold feq at hz; rw [h] at hz; cases hz
    · exact h
  unfold Ieee.Format.add
  rcases h with h | h
  · obtain ⟨s, t, e⟩ := key _ h; rw [e]; cases FloatKind.f64.format.read y <;> rfl
  · obtain ⟨s, t, e⟩ := key _ h; rw [e]; cases FloatKind.f64.format.read x <;> rfl
theorem sub_nan {x y : Nat} (h : feq x x = false ∨ feq y y = false) : FloatKind.f64.format.sub x y = none := by
  have key : ∀ z, feq z z = false → ∃ s t, FloatKind.f64.format.read z = .nan s t := fun z hz => by
    rcases order_self0 z with h | h
    · unfold feq at hz; rw [h] at hz; cases hz
    · exact h
  unfold Ieee.Format.sub
  rcases h with h | h
  · obtain ⟨s, t, e⟩ := key _ h; rw [e]; cases FloatKind.f64.format.read y <;> rfl
  · obtain ⟨s, t, e⟩ := key _ h; rw [e]; cases FloatKind.f64.format.read x <;> rfl
set_option maxRecDepth 100000
/-! ### Whole numbers of 53 bits, as floats -/
theorem near_read {m : Nat} {s : Bool} (hm : 0 < m) (hM : m < 9007199254740992) : FloatKind.f64.format.read (FloatKind.f64.format.nearest s m 0) = .number s (m * 2 ^ (52 - m.log2)) ((m.log2 : Int) - 52) := by
  have hb : FloatKind.f64.format.fractionBits = 52 := rfl
  have hl : FloatKind.f64.format.leastPlace = -1074 := by kernel_rfl
  have hbin : FloatKind.f64.format.binade = 2 ^ 52 := rfl
  have hinf : FloatKind.f64.format.infRung = 2047 * 2 ^ 52 := rfl
  have hlog : m.log2 ≤ 52 := by
    have : m.log2 < 53 := (Nat.log2_lt (by omega)).2 (by simpa using hM)
    omega
  have h1 : 2 ^ m.log2 ≤ m := Nat.log2_self_le (by omega)
  have h2 : m < 2 ^ (m.log2 + 1) := Nat.lt_log2_self
  have hk1 : 2 ^ 52 ≤ m * 2 ^ (52 - m.log2) := by
    have := Nat.mul_le_mul_right (2 ^ (52 - m.log2)) h1
    rwa [← Nat.pow_add, show m.log2 + (52 - m.log2) = 52 by omega] at this
  have hk2 : m * 2 ^ (52 - m.log2) < 2 ^ 53 := by
    have := Nat.mul_lt_mul_of_pos_right h2 (Nat.two_pow_pos (52 - m.log2))
    rwa [← Nat.pow_add, show m.log2 + 1 + (52 - m.log2) = 53 by omega] at this
  generalize hK : m * 2 ^ (52 - m.log2) = K at hk1 hk2
  generalize hL : m.log2 = L at *
  have e53 : (2 : Nat) ^ 53 = 9007199254740992 := by decide
  have e52 : (2 : Nat) ^ 52 = 4503599627370496 := by decide
  have hn : FloatKind.f64.format.nearest s m 0 = FloatKind.f64.format.word s ((L + 1022) * 2 ^ 52 + K) := by
    unfold Ieee.Format.nearest
    rw [if_neg (by omega), hb, hl, hbin, hinf, hL]
    dsimp only
    have a1 : max ((0 : Int) + (L : Int) - (52 : Nat)) (-1074) = (L : Int) - 52 := by omega
    rw [a1]
    have a2 : (0 - ((L : Int) - 52)).toNat = 52 - L := by omega
    have a3 : ((L : Int) - 52 - 0).toNat = 0 := by omega
    have a4 : ((L : Int) - 52 - -1074).toNat = L + 1022 := by omega
    rw [a2, a3, a4, Nat.shiftLeft_eq, hK]
    have a5 : Ieee.Toward.even.cut s K 0 = K := by
      unfold Ieee.Toward.cut
      simp [Nat.mod_one]
    rw [a5]
    congr 1
    rw [Nat.min_eq_left (by omega)]
  rw [hn]
  unfold Ieee.Format.read
  rw [fsw, hbin, hinf, hl]
  have hw : FloatKind.f64.format.word s ((L + 1022) * 2 ^ 52 + K) = (if s then 2 ^ 63 else 0) + ((L + 1022) * 2 ^ 52 + K) := by
    unfold Ieee.Format.word
    rw [show FloatKind.f64.format.signWeight = 2 ^ 63 from rfl]
    cases s <;> simp
  rw [hw]
  have e63 : (2 : Nat) ^ 63 = 9223372036854775808 := by decide
  have r1 : ((if s then 2 ^ 63 else 0) + ((L + 1022) * 2 ^ 52 + K)) % 2 ^ 63 = (L + 1022) * 2 ^ 52 + K := by
    cases s <;> simp only [Bool.false_eq_true, if_false, if_true] <;> omega
  have r2 : (((if s then 2 ^ 63 else 0) + ((L + 1022) * 2 ^ 52 + K)) / 2 ^ 63 % 2 == 1) = s := by
    cases s <;> simp only [Bool.false_eq_true, if_false, if_true]
    · have : (0 + ((L + 1022) * 2 ^ 52 + K)) / 2 ^ 63 % 2 = 0 := by omega
      rw [this]; rfl
    · have : (2 ^ 63 + ((L + 1022) * 2 ^ 52 + K)) / 2 ^ 63 % 2 = 1 := by omega
      rw [this]; rfl
  simp only [r1, r2]
  rw [if_neg (by omega), if_pos (by omega)]
  have r3 : ((L + 1022) * 2 ^ 52 + K) % 2 ^ 52 = K - 2 ^ 52 := by omega
  have r4 : ((L + 1022) * 2 ^ 52 + K) / 2 ^ 52 = L + 1023 := by omega
  rw [r3, r4, show 2 ^ 52 + (K - 2 ^ 52) = K by omega, show (-1074 : Int) + ((L + 1023 - 1 : Nat) : Int) = (L : Int) - 52 by omega]
theorem near_trunc {m : Nat} {s : Bool} (hm : 0 < m) (hM : m < 9007199254740992) : (Ieee.Datum.number s (m * 2 ^ (52 - m.log2)) ((m.log2 : Int) - 52)).integral .zero = .number s m 0 := by
  have hlog : m.log2 ≤ 52 := by
    have : m.log2 < 53 := (Nat.log2_lt (by omega)).2 (by simpa using hM)
    omega
  have h1 : 2 ^ m.log2 ≤ m := Nat.log2_self_le (by omega)
  have hk1 : 2 ^ 52 ≤ m * 2 ^ (52 - m.log2) := by
    have := Nat.mul_le_mul_right (2 ^ (52 - m.log2)) h1
    rwa [← Nat.pow_add, show m.log2 + (52 - m.log2) = 52 by omega] at this
  show Ieee.Datum.number s (Ieee.Toward.zero.cut s ((m * 2 ^ (52 - m.log2)) <<< ((m.log2 : Int) - 52).toNat) (-((m.log2 : Int) - 52)).toNat) 0 = _
  have a1 : ((m.log2 : Int) - 52).toNat = 0 := by omega
  have a2 : (-((m.log2 : Int) - 52)).toNat = 52 - m.log2 := by omega
  rw [a1, a2, cut_zero, Nat.one_shiftLeft]
  congr 1
  have hK0 : (m * 2 ^ (52 - m.log2)) <<< 0 = m * 2 ^ (52 - m.log2) := by simp
  rw [hK0]
  have hlg : 52 ≤ (m * 2 ^ (52 - m.log2)).log2 := (Nat.le_log2 (by have := Nat.two_pow_pos 52; omega)).2 hk1
  rw [Nat.min_eq_left (by omega)]
  exact Nat.mul_div_cancel _ (Nat.two_pow_pos _)
theorem near_decode {z : Int} (h1 : -9007199254740991 ≤ z) (h2 : z ≤ 9007199254740991) (h0 : z ≠ 0) : FloatKind.f64.decode (FloatKind.f64.nearest z) = .number (decide (z < 0)) (z.natAbs * 2 ^ (52 - z.natAbs.log2)) ((z.natAbs.log2 : Int) - 52) :=
  near_read (by omega) (by omega)
theorem f2i_near {z : Int} (h1 : -9007199254740991 ≤ z) (h2 : z ≤ 9007199254740991) : f2i (FloatKind.f64.nearest z) = z := by
  by_cases h0 : z = 0
  · subst h0; kernel_rfl
  · unfold f2i
    rw [near_decode h1 h2 h0]
    unfold Ieee.Datum.toInt
    rw [near_trunc (by omega) (by omega)]
    show Ieee.signed (decide (z < 0)) z.natAbs 0 = z
    unfold Ieee.signed
    by_cases hz : z < 0
    · rw [decide_eq_true hz, if_pos rfl]; simp; omega
    · rw [decide_eq_false hz, if_neg (by simp)]; simp; omega
theorem near_self {z : Int} (h1 : -9007199254740991 ≤ z) (h2 : z ≤ 9007199254740991) : feq (FloatKind.f64.nearest z) (FloatKind.f64.nearest z) = true := by
  rcases order_self0 (FloatKind.f64.nearest z) with h | ⟨s, m, h⟩
  · unfold feq; rw [h]; rfl
  · exfalso
    by_cases h0 : z = 0
    · subst h0
      have : FloatKind.f64.format.read (FloatKind.f64.nearest 0) = .number false 0 (-1074) := by kernel_rfl
      rw [this] at h; cases h
    · have := near_decode h1 h2 h0
      have h : FloatKind.f64.decode (FloatKind.f64.nearest z) = _ := h
      rw [this] at h; cases h
theorem near_may {z : Int} (h1 : -9007199254740991 ≤ z) (h2 : z ≤ 9007199254740991) : mayF (FloatKind.f64.nearest z) = true := by
  by_cases h0 : z = 0
  · subst h0; kernel_rfl
  · have hd := near_decode h1 h2 h0
    have ht : truncF (FloatKind.f64.nearest z) = FloatKind.f64.nearest z := by
      unfold truncF
      rw [hd, near_trunc (by omega) (by omega)]
      rfl
    have hs := near_self h1 h2
    have hz : feq (FloatKind.f64.nearest z) 0 = false := by
      cases hz : feq (FloatKind.f64.nearest z) 0
      · rfl
      · exfalso
        unfold feq Ieee.Format.order at hz
        have e2 : FloatKind.f64.format.read 0 = .number false 0 (-1074) := by kernel_rfl
        have hd : FloatKind.f64.format.read (FloatKind.f64.nearest z) = _ := hd
        rw [e2, hd] at hz
        have hz : (some (compare (Ieee.signed (decide (z < 0)) (z.natAbs * 2 ^ (52 - z.natAbs.log2)) (((z.natAbs.log2 : Int) - 52) - min ((z.natAbs.log2 : Int) - 52) (-1074)).toNat) (Ieee.signed false 0 (-1074 - min ((z.natAbs.log2 : Int) - 52) (-1074)).toNat)) == some Ordering.eq) = true := hz
        generalize (((z.natAbs.log2 : Int) - 52) - min ((z.natAbs.log2 : Int) - 52) (-1074)).toNat = a at hz
        generalize (-1074 - min ((z.natAbs.log2 : Int) - 52) (-1074)).toNat = b at hz
        have hz : compare (Ieee.signed (decide (z < 0)) (z.natAbs * 2 ^ (52 - z.natAbs.log2)) a) (Ieee.signed false 0 b) = .eq := by simpa using hz
        rw [icmp_eq] at hz
        have e0 : Ieee.signed false 0 b = 0 := by unfold Ieee.signed; simp
        rw [e0] at hz
        have hp : 0 < (z.natAbs * 2 ^ (52 - z.natAbs.log2)) <<< a := by
          rw [Nat.shiftLeft_eq]
          exact Nat.mul_pos (Nat.mul_pos (by omega) (Nat.two_pow_pos _)) (Nat.two_pow_pos _)
        generalize (z.natAbs * 2 ^ (52 - z.natAbs.log2)) = M at hz hp
        unfold Ieee.signed at hz
        by_cases hzn : z < 0
        · rw [decide_eq_true hzn, if_pos rfl] at hz
          have : ((M <<< a : Nat) : Int) = 0 := by omega
          rw [Int.natCast_eq_zero] at this; omega
        · rw [decide_eq_false hzn, if_neg (by simp), Int.natCast_eq_zero] at hz; omega
    have ha : fle (absF (FloatKind.f64.nearest z)) 0x433fffffffffffff = true := by
      unfold fle Ieee.Format.order
      have hd : FloatKind.f64.format.read (FloatKind.f64.nearest z) = _ := hd
      rw [absF_eq (near_lt z), read_abs, read_safe, hd]
      dsimp only
      have hlog : z.natAbs.log2 ≤ 52 := by
        have e53 : (2 : Nat) ^ 53 = 9007199254740992 := by decide
        have : z.natAbs.log2 < 53 := (Nat.log2_lt (by omega)).2 (by omega)
        omega
      have a1 : (((z.natAbs.log2 : Int) - 52) - min ((z.natAbs.log2 : Int) - 52) 0).toNat = 0 := by omega
      have a2 : (0 - min ((z.natAbs.log2 : Int) - 52) 0).toNat = 52 - z.natAbs.log2 := by omega
      have key : Ieee.signed false (z.natAbs * 2 ^ (52 - z.natAbs.log2)) (((z.natAbs.log2 : Int) - 52) - min ((z.natAbs.log2 : Int) - 52) 0).toNat ≤ Ieee.signed false 9007199254740991 (0 - min ((z.natAbs.log2 : Int) - 52) 0).toNat := by
        rw [a1, a2]
        unfold Ieee.signed
        rw [if_neg (by simp), if_neg (by simp), Nat.shiftLeft_eq, Nat.shiftLeft_eq, Nat.pow_zero, Nat.mul_one]
        exact Int.ofNat_le.2 (Nat.mul_le_mul_right _ (by omega))
      exact cmp_int_le_iff.trans (decide_eq_true key)
    unfold mayF
    rw [hs, ht, hs, ha, hz]; rfl
end Go.Proofs.YtbmekbpgoakkbaaGreatDoor.Vx
