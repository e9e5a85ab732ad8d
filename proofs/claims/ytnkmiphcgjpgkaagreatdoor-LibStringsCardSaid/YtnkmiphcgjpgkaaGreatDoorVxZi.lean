/- The ten forms of a value that may be; a text's worth as a contract. No condition. -/
import Derived.Test.YtnkmiphcgjpgkaaGreatDoorVxZh
set_option linter.unusedVariables false
set_option linter.unusedSimpArgs false
set_option linter.constructorNameAsVariable false
namespace Go.Proofs.YtnkmiphcgjpgkaaGreatDoor.Vx
open Go
set_option maxRecDepth 100000

/-- the kinds by forms: 0 undefined, 1 null, 2 false, 3 true, 4 a number, 5 a string, 6 a symbol, 7, 8, 9 objects -/
def formKind (i : Nat) : Int := match i with
  | 0 => 0 | 1 => 1 | 2 => 2 | 3 => 2 | 4 => 3 | 5 => 4 | 6 => 5 | 7 => 6 | 8 => 7 | _ => 8
noncomputable def formAV (i n : Nat) : AV := match i with
  | 0 => .ag [.i .u8 0, .f .f64 0, .s 0 0, .i .i64 0]
  | 1 => .ag [.i .u8 1, .f .f64 0, .s 0 0, .i .i64 0]
  | 2 => .ag [.i .u8 2, .f .f64 0, .s 0 0, .i .i64 0]
  | 3 => .ag [.i .u8 2, .f .f64 0x3ff0000000000000, .s 0 0, .i .i64 0]
  | 4 => .ag [.i .u8 3, .x .f (.sy n), .s 0 0, .i .i64 0]
  | 5 => .ag [.i .u8 4, .f .f64 0, .x .s (.sy n), .i .i64 0]
  | 6 => .ag [.i .u8 5, .f .f64 0, .s 0 0, .x (.i .i64) (.sy n)]
  | 7 => .ag [.i .u8 6, .f .f64 0, .s 0 0, .x (.i .i64) (.sy n)]
  | 8 => .ag [.i .u8 7, .f .f64 0, .s 0 0, .x (.i .i64) (.sy n)]
  | _ => .ag [.i .u8 8, .f .f64 0, .s 0 0, .x (.i .i64) (.sy n)]
/-- what is known of the symbol -/
noncomputable def formFs (i n : Nat) : Facts := match i with
  | 4 => [(.fn 10 (packV (.li .u8 3) (.sy n) (.ls 0 0) (.li .i64 0)), true), (.fn 7 (.sy n), true)]
  | 5 => [(.fn 10 (packV (.li .u8 4) (.lf 0) (.sy n) (.li .i64 0)), true), (.cmp .leq (.len (.sy n)) (.li .i64 4096), true)]
  | 6 => [(.fn 10 (packV (.li .u8 5) (.lf 0) (.ls 0 0) (.sy n)), true), (.cmp .leq (.sy n) (.li .i64 (-1)), false)]
  | 7 => [(.fn 10 (packV (.li .u8 6) (.lf 0) (.ls 0 0) (.sy n)), true), (.cmp .leq (.sy n) (.li .i64 (-1)), false)]
  | 8 => [(.fn 10 (packV (.li .u8 7) (.lf 0) (.ls 0 0) (.sy n)), true), (.cmp .leq (.sy n) (.li .i64 (-1)), false)]
  | 9 => [(.fn 10 (packV (.li .u8 8) (.lf 0) (.ls 0 0) (.sy n)), true), (.cmp .leq (.sy n) (.li .i64 (-1)), false)]
  | _ => []
/-- what the symbol stands for -/
def formOK (i : Nat) (S : Value) (V : Value) : Prop := match i with
  | 0 => S = .int .u8 0 ∧ V = .agg #[.int .u8 0, .float .f64 0, .string (str 0 0), .int .i64 0]
  | 1 => S = .int .u8 0 ∧ V = .agg #[.int .u8 1, .float .f64 0, .string (str 0 0), .int .i64 0]
  | 2 => S = .int .u8 0 ∧ V = .agg #[.int .u8 2, .float .f64 0, .string (str 0 0), .int .i64 0]
  | 3 => S = .int .u8 0 ∧ V = .agg #[.int .u8 2, .float .f64 0x3ff0000000000000, .string (str 0 0), .int .i64 0]
  | 4 => ∃ x, S = .float .f64 x ∧ x < 18446744073709551616 ∧ mayF x = true ∧ V = .agg #[.int .u8 3, .float .f64 x, .string (str 0 0), .int .i64 0]
  | 5 => ∃ s : ByteArray, S = .string s ∧ s.size ≤ 4096 ∧ V = .agg #[.int .u8 4, .float .f64 0, .string s, .int .i64 0]
  | i => ∃ r : Int, i ≤ 9 ∧ S = .int .i64 r ∧ (0 ≤ r ∧ r ≤ 9223372036854775807) ∧ V = .agg #[.int .u8 (formKind i), .float .f64 0, .string (str 0 0), .int .i64 r]
theorem may_zero : mayF 0 = true := by kernel_rfl
theorem may_nzero : mayF 9223372036854775808 = false := by kernel_rfl
theorem feq_one {x : Nat} (hx : x < 18446744073709551616) (h : feq x 0x3ff0000000000000 = true) : x = 0x3ff0000000000000 := by
  unfold feq Ieee.Format.order at h
  have e2 : FloatKind.f64.format.read 0x3ff0000000000000 = .number false 4503599627370496 (-52) := by kernel_rfl
  rw [e2] at h
  have hb : FloatKind.f64.format.binade = 2 ^ 52 := rfl
  have hl : FloatKind.f64.format.leastPlace = -1074 := by kernel_rfl
  cases hd : FloatKind.f64.format.read x with
  | nan s t => rw [hd] at h; cases h
  | infinity s => rw [hd] at h; cases s <;> cases h
  | number s m i =>
    rw [hd] at h
    have h : (some (compare (Ieee.signed s m (i - min i (-52)).toNat) (Ieee.signed false 4503599627370496 (-52 - min i (-52)).toNat)) == some Ordering.eq) = true := h
    have h : compare (Ieee.signed s m (i - min i (-52)).toNat) (Ieee.signed false 4503599627370496 (-52 - min i (-52)).toNat) = .eq := by simpa using h
    rw [icmp_eq] at h
    unfold Ieee.Format.read at hd
    rw [fsw, hb, hl] at hd
    dsimp only at hd
    have pos : (0 : Int) < Ieee.signed false 4503599627370496 (-52 - min i (-52)).toNat := by
      unfold Ieee.signed
      rw [if_neg (by simp), Nat.shiftLeft_eq]
      have := Nat.two_pow_pos (-52 - min i (-52)).toNat
      exact Int.natCast_pos.2 (Nat.mul_pos (by decide) this)
    have hs : s = false := by
      cases s
      · rfl
      · rw [signed_tf] at h
        have : (0 : Int) ≤ Ieee.signed false m (i - min i (-52)).toNat := by
          unfold Ieee.signed
          rw [if_neg (by simp)]; exact Int.natCast_nonneg _
        omega
    subst hs
    have hm : m <<< (i - min i (-52)).toNat = 4503599627370496 <<< (-52 - min i (-52)).toNat := by
      unfold Ieee.signed at h
      rw [if_neg (by simp), if_neg (by simp)] at h
      exact Int.natCast_inj.1 h
    rw [Nat.shiftLeft_eq, Nat.shiftLeft_eq] at hm
    split at hd
    · rename_i hr
      injection hd with h3 h4 h5
      subst h5
      have e1 : (-1074 - min (-1074 : Int) (-52)).toNat = 0 := by decide
      obtain ⟨p, hp, e3⟩ : ∃ p : Nat, 0 < p ∧ (2 : Nat) ^ (-52 - min (-1074 : Int) (-52)).toNat = p := ⟨_, Nat.two_pow_pos _, rfl⟩
      rw [e1, e3, Nat.pow_zero, Nat.mul_one] at hm
      have h6 : m < 4503599627370496 := by omega
      omega
    · split at hd
      · rename_i hr1 hr2
        injection hd with h3 h4 h5
        have hq : x % 2 ^ 63 / 2 ^ 52 < 2047 := by
          have : FloatKind.f64.format.infRung = 2047 * 2 ^ 52 := rfl
          omega
        generalize hE : x % 2 ^ 63 / 2 ^ 52 = e at *
        generalize hM : x % 2 ^ 63 % 2 ^ 52 = mm at *
        have hmm : mm < 2 ^ 52 := by omega
        have he1 : 1 ≤ e := by omega
        have hi : i = (e : Int) - 1075 := by omega
        have h8 : e = 1023 := by
          rcases Nat.lt_trichotomy e 1023 with hlt | heq | hgt
          · exfalso
            have a1 : (i - min i (-52)).toNat = 0 := by omega
            have a2 : (-52 - min i (-52)).toNat = 1023 - e := by omega
            rw [a1, a2, Nat.pow_zero, Nat.mul_one] at hm
            have a3 : 2 ≤ 2 ^ (1023 - e) := by
              have : (2 : Nat) ^ 1 ≤ 2 ^ (1023 - e) := Nat.pow_le_pow_right (by decide) (by omega)
              simpa using this
            have : 4503599627370496 * 2 ≤ 4503599627370496 * 2 ^ (1023 - e) := Nat.mul_le_mul_left _ a3
            omega
          · exact heq
          · exfalso
            have a1 : (i - min i (-52)).toNat = e - 1023 := by omega
            have a2 : (-52 - min i (-52)).toNat = 0 := by omega
            rw [a1, a2, Nat.pow_zero, Nat.mul_one] at hm
            have a3 : 2 ≤ 2 ^ (e - 1023) := by
              have : (2 : Nat) ^ 1 ≤ 2 ^ (e - 1023) := Nat.pow_le_pow_right (by decide) (by omega)
              simpa using this
            have : m * 2 ≤ m * 2 ^ (e - 1023) := Nat.mul_le_mul_left _ a3
            omega
        have h9 : mm = 0 := by
          have a1 : (i - min i (-52)).toNat = 0 := by omega
          have a2 : (-52 - min i (-52)).toNat = 0 := by omega
          rw [a1, a2, Nat.pow_zero, Nat.mul_one, Nat.mul_one] at hm
          omega
        have h10 : x / 2 ^ 63 % 2 = 0 := by
          have : (x / 2 ^ 63 % 2 == 1) = false := h3
          have : ¬ (x / 2 ^ 63 % 2 = 1) := by simpa using this
          omega
        omega
      · split at hd <;> cases hd

theorem forms {c : Int} {x : Nat} {s : ByteArray} {r : Int} (hc : 0 ≤ c) (hx : x < 18446744073709551616) (hr : r ≤ 9223372036854775807) (h : mayV c x s r = true) :
    ∃ i S, i < 10 ∧ formOK i S (.agg #[.int .u8 c, .float .f64 x, .string s, .int .i64 r]) := by
  have emp : s.size = 0 → s = str 0 0 := fun h => by
    have : s.data = (str 0 0).data := by
      apply Array.ext'
      rw [str_toList]
      apply List.eq_nil_of_length_eq_zero
      rw [Array.length_toList]; exact h
    cases s
    rw [show str 0 0 = ⟨(str 0 0).data⟩ from rfl, ← this]
  have zer : feq x 0 = true → mayF x = true → x = 0 := fun h1 h2 => by
    rcases zero_word hx h1 with rfl | rfl
    · rfl
    · rw [may_nzero] at h2; cases h2
  unfold mayV at h
  by_cases h2 : c = 2
  · subst h2
    simp only [if_true, Bool.and_eq_true, decide_eq_true_eq, Bool.or_eq_true] at h
    obtain ⟨⟨⟨_, _⟩, _⟩, ⟨h4, h5⟩, h6⟩ := h
    obtain rfl := emp h5
    subst h6
    rcases h4 with h4 | ⟨h4, h7⟩
    · obtain rfl := feq_one hx h4
      exact ⟨3, _, by omega, rfl, rfl⟩
    · obtain rfl := zer h4 h7
      exact ⟨2, _, by omega, rfl, rfl⟩
  by_cases h3 : c = 3
  · subst h3
    rw [if_neg (by decide)] at h
    simp only [if_true, Bool.and_eq_true, decide_eq_true_eq] at h
    obtain ⟨⟨⟨_, _⟩, _⟩, ⟨h4, h5⟩, h6⟩ := h
    obtain rfl := emp h5
    subst h6
    exact ⟨4, _, by omega, x, rfl, hx, h4, rfl⟩
  rw [if_neg h2, if_neg h3] at h
  simp only [Bool.and_eq_true, decide_eq_true_eq, Bool.or_eq_true] at h
  obtain ⟨⟨⟨hc8, hr0⟩, hs⟩, ⟨⟨h4, h5⟩, h6⟩, h7⟩ := h
  obtain rfl := zer h4 h5
  by_cases h1 : c = 4
  · subst h1
    obtain rfl : r = 0 := by omega
    exact ⟨5, _, by omega, s, rfl, by omega, rfl⟩
  obtain rfl := emp (by omega)
  by_cases h8 : 5 ≤ c
  · have hk : ∃ i : Nat, 6 ≤ i ∧ i ≤ 9 ∧ c = formKind i := by
      have : c = 5 ∨ c = 6 ∨ c = 7 ∨ c = 8 := by omega
      rcases this with rfl | rfl | rfl | rfl
      · exact ⟨6, by omega, by omega, rfl⟩
      · exact ⟨7, by omega, by omega, rfl⟩
      · exact ⟨8, by omega, by omega, rfl⟩
      · exact ⟨9, by omega, by omega, rfl⟩
    obtain ⟨i, i1, i2, rfl⟩ := hk
    refine ⟨i, .int .i64 r, by omega, ?_⟩
    match i, i1, i2 with
    | 6, _, _ => exact ⟨r, by omega, rfl, ⟨hr0, hr⟩, rfl⟩
    | 7, _, _ => exact ⟨r, by omega, rfl, ⟨hr0, hr⟩, rfl⟩
    | 8, _, _ => exact ⟨r, by omega, rfl, ⟨hr0, hr⟩, rfl⟩
    | 9, _, _ => exact ⟨r, by omega, rfl, ⟨hr0, hr⟩, rfl⟩
  · obtain rfl : r = 0 := by omega
    have : c = 0 ∨ c = 1 := by omega
    rcases this with rfl | rfl
    · exact ⟨0, _, by omega, rfl, rfl⟩
    · exact ⟨1, _, by omega, rfl, rfl⟩

section
variable {Vs : List Value} {S V : Value}
theorem four_lit {E : Env} {a b c d : AV} {A B C D : Value} (ra : Rv E a A) (rb : Rv E b B) (rc : Rv E c C) (rd : Rv E d D) : Rv E (.ag [a, b, c, d]) (.agg #[A, B, C, D]) := rv_ag (rvl_cons ra (rvl_cons rb (rvl_cons rc (rvl_cons rd rvl_nil))))
theorem den_len {E : Env} {e : SE} {s : ByteArray} (h : den E e = some (.string s)) : den E (.len e) = some (.int .i64 s.size) := by simp only [den, h]
/-- a form's cells, and what is known of them -/
theorem form_ok' {gl : List (Nat × List AV)} {n0 : Nat} {i : Nat} (j : Nat) (hi : i < 10) (h : formOK i S V) (hj : Vs[j]? = some S) : Rv (symEV gl n0 Vs) (formAV i (n0 + j)) V ∧ Holds (symEV gl n0 Vs) (formFs i (n0 + j)) := by
  have obj : ∀ k : Int, ∀ r : Int, S = .int .i64 r → (0 ≤ r ∧ r ≤ 9223372036854775807) → 5 ≤ k → k ≤ 8 → Rv (symEV gl n0 Vs) (.ag [.i .u8 k, .f .f64 0, .s 0 0, .x (.i .i64) (.sy (n0 + j))]) (.agg #[.int .u8 k, .float .f64 0, .string (str 0 0), .int .i64 r]) ∧
      Holds (symEV gl n0 Vs) [(.fn 10 (packV (.li .u8 k) (.lf 0) (.ls 0 0) (.sy (n0 + j))), true), (.cmp .leq (.sy (n0 + j)) (.li .i64 (-1)), false)] := by
    rintro k r rfl hr h5 h8
    have hd := den_sym (gl := gl) (n0 := n0) j hj (sok_i _ _)
    refine ⟨four_lit (by rw [Rv]) (by rw [Rv]) (by rw [Rv]) (rv_sym (s := .i .i64) j hj (sok_i _ _) ⟨_, rfl, by have : IntKind.i64.min = -9223372036854775808 := rfl; omega, hr.2⟩), holds_cons ((den_may rfl rfl rfl hd).trans ?_) (holds_cons ((fact_le hd).trans ?_) holds_nil)⟩
    · unfold mayV
      rw [if_neg (by omega), if_neg (by omega)]
      have hz : feq 0 0 = true := by kernel_rfl
      simp [hz, may_zero, h8, hr.1]
      omega
    · rw [decide_eq_false (by omega)]
  have lit : ∀ k x, Rv (symEV gl n0 Vs) (.ag [.i .u8 k, .f .f64 x, .s 0 0, .i .i64 0]) (.agg #[.int .u8 k, .float .f64 x, .string (str 0 0), .int .i64 0]) := fun k x => four_lit (by rw [Rv]) (by rw [Rv]) (by rw [Rv]) (by rw [Rv])
  match i, hi, h with
  | 0, _, h =>
    obtain ⟨_, rfl⟩ := h
    exact ⟨lit _ _, holds_nil⟩
  | 1, _, h =>
    obtain ⟨_, rfl⟩ := h
    exact ⟨lit _ _, holds_nil⟩
  | 2, _, h =>
    obtain ⟨_, rfl⟩ := h
    exact ⟨lit _ _, holds_nil⟩
  | 3, _, h =>
    obtain ⟨_, rfl⟩ := h
    exact ⟨lit _ _, holds_nil⟩
  | 4, _, h =>
    obtain ⟨x, rfl, hx, hm, rfl⟩ := h
    have hd := den_sym (gl := gl) (n0 := n0) j hj (sok_f _)
    refine ⟨four_lit (by rw [Rv]) (rv_sym (s := .f) j hj (sok_f _) ⟨_, rfl, hx⟩) (by rw [Rv]) (by rw [Rv]), holds_cons ((den_may rfl hd rfl rfl).trans ?_) (holds_cons ((den_fn hd rfl).trans (by rw [hm])) holds_nil)⟩
    unfold mayV; simp [hm]
  | 5, _, h =>
    obtain ⟨s, rfl, hs, rfl⟩ := h
    have hd := den_sym (gl := gl) (n0 := n0) j hj (sok_s _)
    refine ⟨four_lit (by rw [Rv]) (by rw [Rv]) (rv_sym (s := .s) j hj (sok_s _) ⟨_, rfl, by omega⟩) (by rw [Rv]), holds_cons ((den_may rfl rfl hd rfl).trans ?_) (holds_cons ((fact_le (den_len hd)).trans ?_) holds_nil)⟩
    · unfold mayV
      have hz : feq 0 0 = true := by kernel_rfl
      have : (s.size : Int) ≤ 4096 := by omega
      simp [hz, may_zero, this]
    · rw [decide_eq_true (by omega)]
  | 6, _, h =>
    obtain ⟨r, _, hS, hr, rfl⟩ := h
    exact obj 5 r hS hr (by omega) (by omega)
  | 7, _, h =>
    obtain ⟨r, _, hS, hr, rfl⟩ := h
    exact obj 6 r hS hr (by omega) (by omega)
  | 8, _, h =>
    obtain ⟨r, _, hS, hr, rfl⟩ := h
    exact obj 7 r hS hr (by omega) (by omega)
  | 9, _, h =>
    obtain ⟨r, _, hS, hr, rfl⟩ := h
    exact obj 8 r hS hr (by omega) (by omega)
theorem form_ok {i : Nat} (j : Nat) (hi : i < 10) (h : formOK i S V) (hj : Vs[j]? = some S) : Rv (symEV [] 1 Vs) (formAV i (1 + j)) V ∧ Holds (symEV [] 1 Vs) (formFs i (1 + j)) := form_ok' j hi h hj
end

theorem holds_append {E : Env} {f g : Facts} (h : Holds E f) (k : Holds E g) : Holds E (f ++ g) := fun p hp => by
  rcases List.mem_append.1 hp with hp | hp
  · exact h p hp
  · exact k p hp
/-! ### A text's worth -/
noncomputable def readC : Ct := fun args h nxt k => match args with
  | [.x .s e] => bc (hasSy e) (k (.tu [.x .f (.fn 5 e), .x (.i .i64) (.fn 6 e)]) h nxt) false
  | _ => false
theorem readD_bound (m : Bool) (l : List UInt8) : (readD m l).1 < 18446744073709551616 ∧ ((readD m l).2 = 0 ∨ (readD m l).2 = 10) := by
  unfold readD
  split
  · exact ⟨by decide, .inl rfl⟩
  · split
    · exact ⟨by decide, .inr rfl⟩
    · exact ⟨near_lt _, .inl rfl⟩
theorem readL_bound (l : List UInt8) : (readL l).1 < 18446744073709551616 ∧ ((readL l).2 = 0 ∨ (readL l).2 = 10) := by
  unfold readL
  split
  · exact ⟨by decide, .inl rfl⟩
  · exact readD_bound _ _
def OfRead (P : Program) (g : FuncId) : Prop := ∀ (s : ByteArray) (w : World), (s.size : Int) ≤ 9223372036854775807 → 0 < w.heap.size → Calls P g #[.string s] w fun e w' => e = .returned (.tuple #[.float .f64 (readL s.toList).1, .int .i64 (readL s.toList).2]) ∧ RowKit.Below w.heap.size w w'
theorem readC_ok {P : Program} {g : FuncId} (H : OfRead P g) : CtOK P g readC := by
  apply ctExpr
  intro args ARGS E h nxt w k he ra hr
  unfold readC at he
  split at he <;> try (cases he; done)
  obtain ⟨h1, he1⟩ := bc_and he
  obtain ⟨X, hA, rx⟩ := ra.one
  have hA : ARGS = #[X] := by apply Array.ext'; simpa using hA
  subst hA
  simp only [Rv, hasS] at rx
  obtain ⟨da, s, rfl, hx⟩ := rx
  refine ⟨_, h, _, he1, ?_, hr, Fk.refl h, H s w hx (hr.size_pos h1 da)⟩
  obtain ⟨b1, b2⟩ := readL_bound s.toList
  refine Rv.pair ?_ ?_
  · rw [Rv]; exact ⟨den_fn da rfl, _, rfl, b1⟩
  · rw [Rv]
    refine ⟨den_fn da rfl, _, rfl, ?_⟩
    have e1 : IntKind.i64.min = -9223372036854775808 := rfl
    have e2 : IntKind.i64.max = 9223372036854775807 := rfl
    rcases b2 with b | b <;> rw [b] <;> omega
end Go.Proofs.YtnkmiphcgjpgkaaGreatDoor.Vx
