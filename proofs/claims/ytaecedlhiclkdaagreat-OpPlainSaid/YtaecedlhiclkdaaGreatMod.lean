/- math.Mod walked, and num's operations by contract: some float, or an error. No condition. -/
import Derived.Test.YtaecedlhiclkdaaGreatVxY
import Derived.Test.YtaecedlhiclkdaaGreatVxZh
import Derived.WalkKit
import Derived.WalkLawsBesides
import Derived.Lib.Hide
import Derived.Test.YtaecedlhiclkdaaGreatCon
namespace Go.Proofs.YtaecedlhiclkdaaGreat.Mod
open Go Go.RowKit Vx
set_option linter.unusedVariables false
set_option linter.unusedSimpArgs false
set_option linter.constructorNameAsVariable false
set_option maxRecDepth 100000

noncomputable abbrev P : Program := Tryz.prog
noncomputable def c0 : CallF := run (fun _ => none) 40
theorem c0_ok : CallOK P c0 := run_ok SpecOK.none 40
theorem d1 {x : Nat} : den (symEV [] 1 [.float .f64 x]) (.sy 1) = some (.float .f64 x) := den_sym 0 rfl (sok_f _)
theorem rf {x : Nat} (hx : x < 18446744073709551616) : Rv (symEV [] 1 [.float .f64 x]) (.x .f (.sy 1)) (.float .f64 x) := rv_sym (s := .f) 0 rfl (sok_f _) ⟨_, rfl, hx⟩
theorem e1 {x : Int} : den (symEV [] 1 [.int .u64 x]) (.sy 1) = some (.int .u64 x) := den_sym 0 rfl (sok_i _ _)
theorem valRun {call : CallF} (hc : CallOK P call) {Vs : List Value} {fs : Facts} {g : FuncId} {args : List AV} {ARGS : Array Value} {nn : Nat} {x : AV} {U : Value} (hp : ∀ u, x ≠ .pk u)
    (hnn : 1 + Vs.length = nn) (hf : Holds (symEV [] 1 Vs) fs) (ra : RvL (symEV [] 1 Vs) args ARGS.toList) (hx : ∀ E, (symEV [] 1 Vs).le E → ∀ V, Rv E x V → V = U)
    (he : setF fs (startH [] 1) (fun h => call g args h nn (fun v _ _ => sameT v x)) = true) (w : World) (hs : 0 < w.heap.size) :
    Calls P g ARGS w fun e w' => e = .returned U ∧ Below w.heap.size w w' := by
  refine (closedX (fin := fun v _ => sameT v x) hc rfl rfl (List.length_map _) hnn (fun L hL => by obtain ⟨V, _, rfl⟩ := List.mem_map.1 hL; exact spot_blk V) hf ra ?_ he w hs (fun p hp => by cases hp)).mono ?_
  · intro v h
    cases hh : sameT (.pk v) x
    · rfl
    · exact absurd (sameT_ok hh).symm (hp v)
  · rintro e w' ⟨V, v, h', E', n', rfl, rv, hr', hle, hk, hb⟩
    obtain rfl := sameT_ok hk
    exact ⟨by rw [hx E' hle V rv], hb⟩
theorem rx {E E' : Env} {s : Srt} {e : SE} {U V : Value} (hle : E.le E') (hd : den E e = some U) (r : Rv E' (.x s e) V) : V = U := by
  rw [Rv] at r
  have := den_mono hle e U hd
  rw [r.1] at this
  exact Option.some.inj this
theorem bitsX (x : Nat) (w : World) : (callFunc 69 #[.float .f64 x]).run P w = .ok (.value (.int .u64 x)) w := by
  rw [extern_run Tryz.func69 rfl (by kernel_rfl) (by kernel_rfl) (show _ = some Extern.MathFloatBits.float64bits by kernel_rfl)]
  rfl
theorem fromX (x : Int) (w : World) : (callFunc 68 #[.int .u64 x]).run P w = .ok (.value (.float .f64 x.toNat)) w := by
  rw [extern_run Tryz.func68 rfl (by kernel_rfl) (by kernel_rfl) (show _ = some Extern.MathFloatBits.float64frombits by kernel_rfl)]
  rfl
theorem abs0 : setF [] (startH [] 1) (fun h => c0 38 [.x .f (.sy 1)] h 2 (fun v _ _ => sameT v (.x .f (.fn 1 (.fn 4 (.fn 0 (.sy 1))))))) = true := by kernel_rfl
theorem absC (x : Nat) (w : World) (hx : x < 18446744073709551616) (hs : 0 < w.heap.size) : Calls P 38 #[.float .f64 x] w fun e w' => e = .returned (.float .f64 (x % 9223372036854775808)) ∧ Below w.heap.size w w' := by
  refine valRun c0_ok (Vs := [.float .f64 x]) (fun u h => by cases h) rfl holds_nil (rvl_cons (rf hx) rvl_nil) (fun E hle V r => rx hle (den_fn (den_fn (den_fn d1 rfl) rfl) ?_) r) abs0 w hs
  show some (Value.float .f64 (absF x)) = _
  rw [absF_eq hx]
theorem nan0 : setF [] (startH [] 1) (fun h => c0 112 [] h 1 (fun v _ _ => sameT v (.f .f64 0x7ff8000000000001))) = true := by kernel_rfl
theorem nanC (w : World) (hs : 0 < w.heap.size) : Calls P 112 #[] w fun e w' => e = .returned (.float .f64 0x7ff8000000000001) ∧ Below w.heap.size w w' := by
  refine (sameRun c0_ok rvl_nil (fun u h => by cases h) nan0 w hs).mono ?_
  rintro e w' ⟨V, E, rfl, rv, hb⟩
  rw [Rv] at rv
  exact ⟨by rw [rv], hb⟩

theorem wrapU {n : Nat} (h : n < 18446744073709551616) : IntKind.u64.wrap (n : Int) = n := wrap_in0 (by show (0 : Int) ≤ n; omega) (by show (n : Int) ≤ 18446744073709551615; omega)
theorem wrap64_in {z : Int} (h1 : -9223372036854775808 ≤ z) (h2 : z ≤ 9223372036854775807) : wrap64 z = z := by unfold wrap64; omega
theorem ofI (n : Nat) : BitVec.ofInt 64 (n : Int) = BitVec.ofNat 64 n := BitVec.ofInt_natCast ..
theorem bits_and {n : Nat} (h : n < 2048) : bits .and .u64 (n : Int) 2047 = n := by
  have e : (BitVec.ofNat 64 n &&& BitVec.ofNat 64 2047).toNat = n := by
    rw [BitVec.toNat_and, BitVec.toNat_ofNat, BitVec.toNat_ofNat, Nat.mod_eq_of_lt (by omega)]
    show n &&& (2 ^ 11 - 1) = n
    rw [Nat.and_two_pow_sub_one_eq_mod, Nat.mod_eq_of_lt (by omega)]
  show IntKind.u64.wrap (((BitVec.ofInt 64 (n : Int) &&& BitVec.ofInt 64 ((2047 : Nat) : Int)).toNat : Nat) : Int) = _
  rw [ofI, ofI, e, wrapU (by omega)]
theorem bits_andI {n : Nat} (h : n < 2048) : bits .and .i64 (n : Int) 2047 = n := by
  have e : (BitVec.ofNat 64 n &&& BitVec.ofNat 64 2047).toNat = n := by
    rw [BitVec.toNat_and, BitVec.toNat_ofNat, BitVec.toNat_ofNat, Nat.mod_eq_of_lt (by omega)]
    show n &&& (2 ^ 11 - 1) = n
    rw [Nat.and_two_pow_sub_one_eq_mod, Nat.mod_eq_of_lt (by omega)]
  show IntKind.i64.wrap (((BitVec.ofInt 64 (n : Int) &&& BitVec.ofInt 64 ((2047 : Nat) : Int)).toNat : Nat) : Int) = _
  rw [ofI, ofI, e, wrap_in0 (by show (-9223372036854775808 : Int) ≤ n; omega) (by show (n : Int) ≤ 9223372036854775807; omega)]
theorem bits_low {n : Nat} (h : n < 9223372036854775808) : bits .andNot .u64 (n : Int) 9218868437227405312 = ((n % 4503599627370496 : Nat) : Int) := by
  have e : (BitVec.ofNat 64 n &&& ~~~BitVec.ofNat 64 9218868437227405312).toNat = n % 4503599627370496 := by
    have e1 : (~~~BitVec.ofNat 64 9218868437227405312).toNat = 2 ^ 63 ||| (2 ^ 52 - 1) := by decide
    have z : n &&& 2 ^ 63 = 0 := by
      apply Nat.eq_of_testBit_eq
      intro i
      rw [Nat.testBit_and, Nat.testBit_two_pow, Nat.zero_testBit]
      by_cases hi : 63 = i
      · subst hi; rw [Nat.testBit_lt_two_pow (by omega)]; rfl
      · simp [hi]
    rw [BitVec.toNat_and, e1, BitVec.toNat_ofNat, Nat.mod_eq_of_lt (by omega), Nat.and_or_distrib_left, z, Nat.zero_or, Nat.and_two_pow_sub_one_eq_mod]
  show IntKind.u64.wrap (((BitVec.ofInt 64 (n : Int) &&& ~~~BitVec.ofInt 64 ((9218868437227405312 : Nat) : Int)).toNat : Nat) : Int) = _
  rw [ofI, ofI, e, wrapU (by omega)]
theorem bits_or {n k : Nat} (h : n < 4503599627370496) (hk : k < 2048) : bits .or .u64 (n : Int) ((k * 4503599627370496 : Nat) : Int) = ((k * 4503599627370496 + n : Nat) : Int) := by
  have e : (BitVec.ofNat 64 n ||| BitVec.ofNat 64 (k * 4503599627370496)).toNat = k * 4503599627370496 + n := by
    rw [BitVec.toNat_or, BitVec.toNat_ofNat, BitVec.toNat_ofNat, Nat.mod_eq_of_lt (by omega), Nat.mod_eq_of_lt (by omega), Nat.or_comm]
    have := Nat.shiftLeft_add_eq_or_of_lt (i := 52) (b := n) (by omega) k
    rw [Nat.shiftLeft_eq] at this
    exact this.symm
  have g : bits .or .u64 (n : Int) ((k * 4503599627370496 : Nat) : Int) = IntKind.u64.wrap (((BitVec.ofInt 64 (n : Int) ||| BitVec.ofInt 64 ((k * 4503599627370496 : Nat) : Int)).toNat : Nat) : Int) := by unfold bits; rfl
  rw [g, ofI, ofI, e, wrapU (by omega)]
theorem bits_orC {n k : Nat} {y : Int} (h : n < 4503599627370496) (hk : k < 2048) (hy : y = ((k * 4503599627370496 : Nat) : Int)) : bits .or .u64 (n : Int) y = ((k * 4503599627370496 + n : Nat) : Int) := by
  subst hy; exact bits_or h hk
theorem fb_eq {m : Nat} (h : 4503599627370496 ≤ kb m) : fb m = 1022 * 4503599627370496 + (kb m - 4503599627370496) := by
  unfold fb
  generalize kb m = K at *
  omega
theorem or_c : (4602678819172646912 : Int) = ((1022 * 4503599627370496 : Nat) : Int) := by decide
theorem exp_q {L : Nat} (h : L ≤ 52) : wrap64 (wrap64 (wrap64 (wrap64 (bits .and .u64 ((L + 1023 : Nat) : Int) 2047) - 1023) + 1)) = (L : Int) + 1 := by
  have w1 : wrap64 ((L + 1023 : Nat) : Int) = (L : Int) + 1023 := (wrap64_in (by omega) (by omega)).trans (by omega)
  have w2 : wrap64 ((L : Int) + 1023 - 1023) = L := (wrap64_in (by omega) (by omega)).trans (by omega)
  have w3 : wrap64 ((L : Int) + 1) = (L : Int) + 1 := wrap64_in (by omega) (by omega)
  rw [bits_and (by omega), w1, w2, w3, w3]
theorem neg_word {a : Nat} (h : a < 9223372036854775808) : Op.negFloat .f64 (9223372036854775808 + a) = a := by
  show (2 ^ 63 + a) ^^^ 2 ^ 63 = a
  apply Nat.eq_of_testBit_eq
  intro i
  rw [Nat.testBit_xor, Nat.testBit_two_pow]
  rcases Nat.lt_trichotomy i 63 with hi | rfl | hi
  · rw [Nat.testBit_two_pow_add_gt hi]
    simp [show ¬ 63 = i by omega]
  · rw [Nat.testBit_two_pow_add_eq, Nat.testBit_lt_two_pow (by omega)]; rfl
  · have h2 : 2 ^ 64 ≤ 2 ^ i := Nat.pow_le_pow_right (by decide) hi
    have h3 : (2 : Nat) ^ 63 < 2 ^ 64 := by decide
    have e64 : (2 : Nat) ^ 64 = 18446744073709551616 := by decide
    have e63 : (2 : Nat) ^ 63 = 9223372036854775808 := by decide
    rw [Nat.testBit_lt_two_pow (x := a) (by omega), Nat.testBit_lt_two_pow (by omega)]
    simp [show ¬ 63 = i by omega]
/-- a word's exponent and fraction -/
theorem wb_parts {m : Nat} (hm : 0 < m) (hM : m < 9007199254740992) : wb m / 4503599627370496 = m.log2 + 1023 ∧ wb m % 4503599627370496 = kb m - 4503599627370496 ∧ 4503599627370496 ≤ kb m ∧ kb m < 9007199254740992 ∧ m.log2 ≤ 52 := by
  have h1 := kb_lo hm hM
  have h2 := kb_hi hm hM
  have h3 := log_le hm hM
  have e : wb m = (m.log2 + 1022) * 2 ^ 52 + kb m := by unfold wb; rw [if_neg (by omega)]
  rw [e]
  refine ⟨by omega, by omega, by omega, by omega, h3⟩
theorem isNaNC (x : Nat) (w : World) : Calls P 128 #[.float .f64 x] w fun e w' => e = .returned (.bool (FloatKind.f64.format.order x x != some .eq)) ∧ w' = w := by
  go_enter Tryz.func128, Tryz.ntmps128
  go_wp2
  all_goals (go_ret; exact ⟨rfl, rfl⟩)
theorem isInfC (m : Nat) (w : World) (hM : m < 9007199254740992) (hs : 0 < w.heap.size) : Calls P 127 #[.float .f64 (wb m), .int .i64 0] w fun e w' => e = .returned (.bool false) ∧ Below w.heap.size w w' := by
  have hx := wb_lt hM
  have hA := absC (wb m) w (by omega) hs
  rw [Nat.mod_eq_of_lt hx] at hA
  have o1 := order_max hM
  have o2 := order_nmax hM
  go_enter Tryz.func127, Tryz.ntmps127
  go_wp2_with (go_at_call 38; refine hA.mono ?_; rintro e w' ⟨rfl, hw⟩)
  all_goals (go_ret; exact ⟨rfl, hw⟩)
theorem normC (m : Nat) (w : World) (hm : 0 < m) (hM : m < 9007199254740992) (hs : 0 < w.heap.size) : Calls P 135 #[.float .f64 (wb m)] w fun e w' => e = .returned (.tuple #[.float .f64 (wb m), .int .i64 0]) ∧ Below w.heap.size w w' := by
  have hx := wb_lt hM
  have hA := absC (wb m) w (by omega) hs
  rw [Nat.mod_eq_of_lt hx] at hA
  have o1 := order_least hm hM
  go_enter Tryz.func135, Tryz.ntmps135
  go_wp2_with (go_at_call 38; refine hA.mono ?_; rintro e w' ⟨rfl, hw⟩)
  all_goals (go_ret2; exact ⟨rfl, hw⟩)
theorem self_eq (m : Nat) (hM : m < 9007199254740992) : FloatKind.f64.format.order (wb m) (wb m) = some .eq := by
  rcases Nat.eq_zero_or_pos m with rfl | hp
  · kernel_rfl
  · rw [order_wb hM hp hM]; simp
theorem frexpC (m : Nat) (w : World) (hm : 0 < m) (hM : m < 9007199254740992) (hs : 0 < w.heap.size) : Calls P 132 #[.float .f64 (wb m)] w fun e w' => e = .returned (.tuple #[.float .f64 (fb m), .int .i64 (m.log2 + 1)]) ∧ Below w.heap.size w w' := by
  have hx := wb_lt hM
  have o1 := order_zero hm hM
  have o2 := self_eq m hM
  have cN : ∀ w1, Below w.heap.size w w1 → Calls P 135 #[.float .f64 (wb m)] w1 fun e w' => e = .returned (.tuple #[.float .f64 (wb m), .int .i64 0]) ∧ Below w1.heap.size w1 w' := fun w1 h => normC m w1 hm hM (by have := h.size; omega)
  have hB := bitsX (wb m)
  have hF := fromX
  have cI := isInfC m w hM hs
  go_enter Tryz.func132, Tryz.ntmps132
  go_wp2_with (first
    | (go_at_call 127; refine cI.mono ?_; rintro e w1 ⟨rfl, hw1⟩)
    | (go_at_call 128; refine (isNaNC _ _).mono ?_; rintro e w2 ⟨rfl, rfl⟩)
    | (go_at_call 135; refine (cN _ hw1).mono ?_; rintro e w3 ⟨rfl, hw3⟩))
  all_goals go_ret2
  obtain ⟨p1, p2, p3, p4, p5⟩ := wb_parts hm hM
  have q1 : ((wb m : Nat) : Int) / 4503599627370496 = ((m.log2 + 1023 : Nat) : Int) := by omega
  have q2 : bits .or .u64 (bits .andNot .u64 ((wb m : Nat) : Int) 9218868437227405312) 4602678819172646912 = ((fb m : Nat) : Int) := by
    rw [bits_low hx, p2]
    have e : fb m = 1022 * 4503599627370496 + (kb m - 4503599627370496) := fb_eq p3
    rw [e]
    exact bits_orC (by omega) (by decide) or_c
  have q3 : wrap64 (wrap64 (wrap64 (wrap64 (bits .and .u64 (((wb m : Nat) : Int) / 4503599627370496) 2047) - 1023) + 1)) = (m.log2 : Int) + 1 := by
    rw [q1]; exact exp_q p5
  rw [q2, q3]
  exact ⟨rfl, hw1.trans (hw3.mono hw1.size)⟩
theorem FrexpC (m : Nat) (w : World) (hm : 0 < m) (hM : m < 9007199254740992) (hs : 0 < w.heap.size) : Calls P 129 #[.float .f64 (wb m)] w fun e w' => e = .returned (.tuple #[.float .f64 (fb m), .int .i64 (m.log2 + 1)]) ∧ Below w.heap.size w w' := by
  have c := frexpC m w hm hM hs
  go_enter Tryz.func129, Tryz.ntmps129
  go_wp2_with (go_at_call 132; refine c.mono ?_; rintro e w1 ⟨rfl, hw1⟩)
  all_goals (go_ret2; exact ⟨rfl, hw1⟩)
theorem run_mul {x y r : Nat} (t : TypeId) (h : FloatKind.f64.format.mul x y = some r) (w : World) : (binOp .mul t (.float .f64 x) (.float .f64 y)).run P w = .ok (.float .f64 r) w := run_float_arith w .mul t .f64 x y r h
theorem run_sub {x y r : Nat} (t : TypeId) (h : FloatKind.f64.format.sub x y = some r) (w : World) : (binOp .sub t (.float .f64 x) (.float .f64 y)).run P w = .ok (.float .f64 r) w := run_float_arith w .sub t .f64 x y r h
theorem ldexpC (m k : Nat) (w : World) (hm : 0 < m) (hM : m * 2 ^ k < 9007199254740992) (hk : m.log2 + k ≤ 52) (hs : 0 < w.heap.size) : Calls P 134 #[.float .f64 (wb m), .int .i64 k] w fun e w' => e = .returned (.float .f64 (wb (m * 2 ^ k))) ∧ Below w.heap.size w w' := by
  have hpk := Nat.two_pow_pos k
  have hmk : 0 < m * 2 ^ k := Nat.mul_pos hm hpk
  have hm1 : m ≤ m * 2 ^ k := Nat.le_mul_of_pos_right m hpk
  have hM0 : m < 9007199254740992 := by omega
  have hx := wb_lt hM0
  have o1 := order_zero hm hM0
  have o2 := self_eq m hM0
  have cN : ∀ w1, Below w.heap.size w w1 → Calls P 135 #[.float .f64 (wb m)] w1 fun e w' => e = .returned (.tuple #[.float .f64 (wb m), .int .i64 0]) ∧ Below w1.heap.size w1 w' := fun w1 h => normC m w1 hm hM0 (by have := h.size; omega)
  have hB := bitsX (wb m)
  have cI := isInfC m w hM0 hs
  obtain ⟨p1, p2, p3, p4, p5⟩ := wb_parts hm hM0
  have q0 : wrap64 ((k : Int) + wrap64 (bits .and .i64 (((wb m : Nat) : Int) / 4503599627370496) 2047 - 1023)) = (k : Int) + m.log2 := by
    have q1 : ((wb m : Nat) : Int) / 4503599627370496 = ((m.log2 + 1023 : Nat) : Int) := by omega
    rw [q1, bits_andI (by omega)]
    simp only [wrap64]
    omega
  have q2 : bits .or .u64 (bits .andNot .u64 ((wb m : Nat) : Int) 9218868437227405312) (((k : Int) + m.log2 + 1023) * 4503599627370496) = ((wb (m * 2 ^ k) : Nat) : Int) := by
    have h := bits_or (n := kb m - 4503599627370496) (k := k + m.log2 + 1023) (by omega) (by omega)
    have e0 : ((k : Int) + m.log2 + 1023) * 4503599627370496 = (((k + m.log2 + 1023) * 4503599627370496 : Nat) : Int) := by omega
    rw [bits_low hx, p2, e0, h, wb_scale hm hk]
    have e : (k + m.log2 + 1023) * 4503599627370496 + (kb m - 4503599627370496) = (m.log2 + k + 1022) * 2 ^ 52 + kb m := by omega
    rw [e]
  have hF : ∀ w, (callFunc 68 #[.int .u64 (bits .or .u64 (bits .andNot .u64 ((wb m : Nat) : Int) 9218868437227405312) (((k : Int) + m.log2 + 1023) * 4503599627370496))]).run P w = .ok (.value (.float .f64 (wb (m * 2 ^ k)))) w := fun w => by
    rw [fromX, q2]; rfl
  have hmul := run_mul 22 (mul_wb hmk hM)
  clear q2
  go_enter Tryz.func134, Tryz.ntmps134
  go_wp2_with (first
    | (go_at_call 127; refine cI.mono ?_; rintro e w1 ⟨rfl, hw1⟩)
    | (go_at_call 128; refine (isNaNC _ _).mono ?_; rintro e w2 ⟨rfl, rfl⟩)
    | (go_at_call 135; refine (cN _ hw1).mono ?_; rintro e w3 ⟨rfl, hw3⟩))
  all_goals (go_ret; exact ⟨rfl, hw1.trans (hw3.mono hw1.size)⟩)
theorem LdexpC (m k : Nat) (w : World) (hm : 0 < m) (hM : m * 2 ^ k < 9007199254740992) (hk : m.log2 + k ≤ 52) (hs : 0 < w.heap.size) : Calls P 130 #[.float .f64 (wb m), .int .i64 k] w fun e w' => e = .returned (.float .f64 (wb (m * 2 ^ k))) ∧ Below w.heap.size w w' := by
  have c := ldexpC m k w hm hM hk hs
  go_enter Tryz.func130, Tryz.ntmps130
  go_wp2_with (go_at_call 134; refine c.mono ?_; rintro e w1 ⟨rfl, hw1⟩)
  all_goals (go_ret; exact ⟨rfl, hw1⟩)

/-- what is left, as the loop goes -/
def RelM (r : Value) : Prop := ∃ R : Nat, R < 9007199254740992 ∧ r = .float .f64 (wb R)
noncomputable def leftOf (r : Value) : Nat := open Classical in if h : ∃ R : Nat, R < 9007199254740992 ∧ r = .float .f64 (wb R) then h.choose else 0
theorem wb_inj {A B : Nat} (hA : A < 9007199254740992) (hB : B < 9007199254740992) (h : wb A = wb B) : A = B := by
  rcases Nat.eq_zero_or_pos B with rfl | hp
  · rcases Nat.eq_zero_or_pos A with rfl | ha
    · rfl
    · have := kb_lo ha hA
      rw [wb_zero] at h
      unfold wb at h
      rw [if_neg (by omega)] at h
      omega
  · have h1 := order_wb hA hp hB
    rw [h, self_eq B hB] at h1
    have h1 := Option.some.inj h1
    have := (icmp_eq _ _).1 h1.symm
    omega
theorem leftOf_wb {R : Nat} (hR : R < 9007199254740992) : leftOf (.float .f64 (wb R)) = R := by
  have h : ∃ R' : Nat, R' < 9007199254740992 ∧ (Value.float .f64 (wb R)) = .float .f64 (wb R') := ⟨R, hR, rfl⟩
  unfold leftOf
  rw [dif_pos h]
  have hc := h.choose_spec
  injection hc.2 with _ e
  exact (wb_inj hR hc.1 e).symm
end Go.Proofs.YtaecedlhiclkdaaGreat.Mod
namespace Go.Proofs.YtaecedlhiclkdaaGreat.Mod
open Go Go.RowKit Vx
set_option linter.unusedVariables false
set_option linter.unusedSimpArgs false
set_option linter.constructorNameAsVariable false
set_option maxRecDepth 100000
theorem wb_lt64 {m : Nat} (h : m < 9007199254740992) : wb m < 18446744073709551616 := by have := wb_lt h; omega
theorem neg_lt64 {m : Nat} (h : m < 9007199254740992) : Op.negFloat .f64 (wb m) < 18446744073709551616 :=
  Nat.xor_lt_two_pow (n := 64) (by have := wb_lt h; omega) (by decide)
theorem ldL {R Y : Nat} {w : World} (hs : 0 < w.heap.size) (hY : 0 < Y) (hYR : Y ≤ R) (hR : R < 9007199254740992) (h : kb R < kb Y) (w1 : World) (hb : Below w.heap.size w w1) :
    Calls P 130 #[.float .f64 (wb Y), .int .i64 (wrap64 (wrap64 (R.log2 : Int) - ((Y.log2 : Int) + 1)))] w1 fun e w' => e = .returned (.float .f64 (wb (Y * 2 ^ (R.log2 - Y.log2 - 1)))) ∧ Below w1.heap.size w1 w' := by
  have hlt := take_lt hY hYR hR h
  have hle := take_le' hY hYR hR h
  have lR := log_le (m := R) (by omega) hR
  have e : wrap64 (wrap64 (R.log2 : Int) - ((Y.log2 : Int) + 1)) = ((R.log2 - Y.log2 - 1 : Nat) : Int) := by
    rw [wrap64_in (z := (R.log2 : Int)) (by omega) (by omega)]
    exact (wrap64_in (by omega) (by omega)).trans (by omega)
  rw [e]
  exact LdexpC Y _ w1 hY (by omega) (by omega) (by have := hb.size; omega)
theorem ldG {R Y : Nat} {w : World} (hs : 0 < w.heap.size) (hY : 0 < Y) (hYR : Y ≤ R) (hR : R < 9007199254740992) (h : kb Y ≤ kb R) (w1 : World) (hb : Below w.heap.size w w1) :
    Calls P 130 #[.float .f64 (wb Y), .int .i64 (wrap64 ((R.log2 : Int) + 1 - ((Y.log2 : Int) + 1)))] w1 fun e w' => e = .returned (.float .f64 (wb (Y * 2 ^ (R.log2 - Y.log2)))) ∧ Below w1.heap.size w1 w' := by
  have hlog := log_mono hY hYR
  have hle := take_le hY hYR hR h
  have lR := log_le (m := R) (by omega) hR
  have e : wrap64 ((R.log2 : Int) + 1 - ((Y.log2 : Int) + 1)) = ((R.log2 - Y.log2 : Nat) : Int) := (wrap64_in (by omega) (by omega)).trans (by omega)
  rw [e]
  exact LdexpC Y _ w1 hY (by omega) (by omega) (by have := hb.size; omega)

set_option maxHeartbeats 800000 in
theorem modC (x X Y y : Nat) (w : World) (hx : x < 18446744073709551616) (hX : X < 9007199254740992) (hy : y < 18446744073709551616) (hY : Y < 9007199254740992) (hye : y % 9223372036854775808 = wb Y) (hY0 : 0 < Y)
    (oy : (FloatKind.f64.format.order y 0 == some .eq) = false) (oyy : FloatKind.f64.format.order y y = some .eq) (oxx : FloatKind.f64.format.order x x = some .eq)
    (cX : ∀ w1, 0 < w1.heap.size → Calls P 127 #[.float .f64 x, .int .i64 0] w1 fun e w' => e = .returned (.bool false) ∧ Below w1.heap.size w1 w')
    (ox : (x = wb X ∧ (FloatKind.f64.format.order x 0 == some .lt) = false) ∨ (Op.negFloat .f64 x = wb X ∧ FloatKind.f64.format.order x 0 = some .lt)) (hs : 0 < w.heap.size) :
    Calls P 124 #[.float .f64 x, .float .f64 y] w fun e w' => (∃ z, z < 18446744073709551616 ∧ e = .returned (.float .f64 z)) ∧ Below w.heap.size w w' := by
  have cI := cX w hs
  have cA : ∀ w1, Below w.heap.size w w1 → Calls P 38 #[.float .f64 y] w1 fun e w' => e = .returned (.float .f64 (wb Y)) ∧ Below w1.heap.size w1 w' := fun w1 h => by
    have := absC y w1 hy (by have := h.size; omega)
    rwa [hye] at this
  have cF : ∀ m w1, 0 < m → m < 9007199254740992 → Below w.heap.size w w1 → Calls P 129 #[.float .f64 (wb m)] w1 fun e w' => e = .returned (.tuple #[.float .f64 (fb m), .int .i64 (m.log2 + 1)]) ∧ Below w1.heap.size w1 w' := fun m w1 h1 h2 h => FrexpC m w1 h1 h2 (by have := h.size; omega)
  have hneg : ∀ (b : Nat) w, (Op.unary .neg (.float .f64 b)).run P w = .ok (.float .f64 (Op.negFloat .f64 b)) w := fun _ _ => rfl
  rcases ox with ⟨exx, ox⟩ | ⟨exx, ox⟩
  all_goals
    have EX := Lib.hid exx
    have EY := Lib.hid hye
    clear exx hye
  case' inr => have hnx : ∀ w, (Op.unary .neg (.float .f64 x)).run P w = .ok (.float .f64 (wb X)) w := fun w => by rw [hneg, EX.out]
  all_goals
    go_enter Tryz.func124, Tryz.ntmps124
    go_wp2_with (first
      | (go_at_call 127; refine cI.mono ?_; rintro e w1 ⟨rfl, hw1⟩)
      | (go_at_call 128; refine (isNaNC _ _).mono ?_; rintro e w2 ⟨rfl, rfl⟩)
      | (go_at_call 38; refine (cA _ hw1).mono ?_; rintro e w3 ⟨rfl, hw3⟩)
      | (go_at_call 129; refine (cF Y _ hY0 hY (hw1.trans (hw3.mono hw1.size))).mono ?_; rintro e w4 ⟨rfl, hw4⟩))
    have hb4 : Below w.heap.size w w4 := (hw1.trans (hw3.mono hw1.size)).trans (hw4.mono (by have := hw1.size; have := hw3.size; omega))
    clear hw1 hw3 hw4
  · go_loopw [7] (fun r wr => RelM r ∧ Below w.heap.size w wr) (fun r _ => leftOf r)
    case atStart => exact ⟨⟨X, hX, by rw [EX.out]⟩, hb4⟩
    case round =>
      obtain ⟨⟨R, hR, rfl⟩, hbr⟩ := hrel
      rcases Nat.lt_or_ge R Y with hlt | hge
      · have oRY : FloatKind.f64.format.order (wb R) (wb Y) = some .lt := by rw [order_wb hR hY0 hY, cmp_lt (by omega)]
        go_wp2
        all_goals (go_ret; refine ⟨⟨_, ?_, rfl⟩, hbr⟩; first | exact wb_lt64 hR | exact neg_lt64 hR)
      · have oRY : (FloatKind.f64.format.order (wb R) (wb Y) == some .gt || FloatKind.f64.format.order (wb R) (wb Y) == some .eq) = true := by
          rw [order_wb hR hY0 hY]
          rcases Nat.lt_or_ge Y R with h | h
          · rw [cmp_gt (by omega)]; rfl
          · rw [(icmp_eq _ _).2 (show (R : Int) = Y by omega)]; rfl
        have cR := fun w1 h => cF R w1 (by omega) hR h
        have oF := order_fb (R := R) (S := Y) (by omega) hR hY0 hY
        rcases Nat.lt_or_ge (kb R) (kb Y) with hk | hk
        · rw [cmp_lt (by omega)] at oF
          have cL := fun w1 h => ldL hs hY0 hge hR hk w1 h
          have hsub := run_sub 22 (sub_wb (S := Y * 2 ^ (R.log2 - Y.log2 - 1)) (Nat.mul_pos hY0 (Nat.two_pow_pos _)) (take_le' hY0 hge hR hk) hR)
          have hSp : 0 < Y * 2 ^ (R.log2 - Y.log2 - 1) := Nat.mul_pos hY0 (Nat.two_pow_pos _)
          have hSR := take_le' hY0 hge hR hk
          clear hk
          generalize Y * 2 ^ (R.log2 - Y.log2 - 1) = S at *
          go_wp2_with (first
            | (go_at_call 129; refine (cR _ hbr).mono ?_; rintro e w5 ⟨rfl, hw5⟩)
            | (go_at_call 130; refine (cL _ (hbr.trans (hw5.mono hbr.size))).mono ?_; rintro e w6 ⟨rfl, hw6⟩))
          all_goals exact ⟨⟨⟨R - S, by omega, rfl⟩, (hbr.trans (hw5.mono hbr.size)).trans (hw6.mono (by have := hbr.size; have := hw5.size; omega))⟩, by rw [leftOf_wb (by omega), leftOf_wb hR]; omega⟩
        · have oF' : (FloatKind.f64.format.order (fb R) (fb Y) == some .lt) = false := by
            rw [oF]
            rcases Nat.lt_or_ge (kb Y) (kb R) with h | h
            · rw [cmp_gt (by omega)]; rfl
            · rw [(icmp_eq _ _).2 (show (kb R : Int) = kb Y by omega)]; rfl
          have cL := fun w1 h => ldG hs hY0 hge hR hk w1 h
          have hsub := run_sub 22 (sub_wb (S := Y * 2 ^ (R.log2 - Y.log2)) (Nat.mul_pos hY0 (Nat.two_pow_pos _)) (take_le hY0 hge hR hk) hR)
          have hSp : 0 < Y * 2 ^ (R.log2 - Y.log2) := Nat.mul_pos hY0 (Nat.two_pow_pos _)
          have hSR := take_le hY0 hge hR hk
          clear oF hk
          generalize Y * 2 ^ (R.log2 - Y.log2) = S at *
          go_wp2_with (first
            | (go_at_call 129; refine (cR _ hbr).mono ?_; rintro e w5 ⟨rfl, hw5⟩)
            | (go_at_call 130; refine (cL _ (hbr.trans (hw5.mono hbr.size))).mono ?_; rintro e w6 ⟨rfl, hw6⟩))
          all_goals exact ⟨⟨⟨R - S, by omega, rfl⟩, (hbr.trans (hw5.mono hbr.size)).trans (hw6.mono (by have := hbr.size; have := hw5.size; omega))⟩, by rw [leftOf_wb (by omega), leftOf_wb hR]; omega⟩
  · go_loopw [7] (fun r wr => RelM r ∧ Below w.heap.size w wr) (fun r _ => leftOf r)
    case atStart => exact ⟨⟨X, hX, by rw [EX.out]⟩, hb4⟩
    case round =>
      obtain ⟨⟨R, hR, rfl⟩, hbr⟩ := hrel
      rcases Nat.lt_or_ge R Y with hlt | hge
      · have oRY : FloatKind.f64.format.order (wb R) (wb Y) = some .lt := by rw [order_wb hR hY0 hY, cmp_lt (by omega)]
        go_wp2
        all_goals (go_ret; refine ⟨⟨_, ?_, rfl⟩, hbr⟩; first | exact wb_lt64 hR | exact neg_lt64 hR)
      · have oRY : (FloatKind.f64.format.order (wb R) (wb Y) == some .gt || FloatKind.f64.format.order (wb R) (wb Y) == some .eq) = true := by
          rw [order_wb hR hY0 hY]
          rcases Nat.lt_or_ge Y R with h | h
          · rw [cmp_gt (by omega)]; rfl
          · rw [(icmp_eq _ _).2 (show (R : Int) = Y by omega)]; rfl
        have cR := fun w1 h => cF R w1 (by omega) hR h
        have oF := order_fb (R := R) (S := Y) (by omega) hR hY0 hY
        rcases Nat.lt_or_ge (kb R) (kb Y) with hk | hk
        · rw [cmp_lt (by omega)] at oF
          have cL := fun w1 h => ldL hs hY0 hge hR hk w1 h
          have hsub := run_sub 22 (sub_wb (S := Y * 2 ^ (R.log2 - Y.log2 - 1)) (Nat.mul_pos hY0 (Nat.two_pow_pos _)) (take_le' hY0 hge hR hk) hR)
          have hSp : 0 < Y * 2 ^ (R.log2 - Y.log2 - 1) := Nat.mul_pos hY0 (Nat.two_pow_pos _)
          have hSR := take_le' hY0 hge hR hk
          clear hk
          generalize Y * 2 ^ (R.log2 - Y.log2 - 1) = S at *
          go_wp2_with (first
            | (go_at_call 129; refine (cR _ hbr).mono ?_; rintro e w5 ⟨rfl, hw5⟩)
            | (go_at_call 130; refine (cL _ (hbr.trans (hw5.mono hbr.size))).mono ?_; rintro e w6 ⟨rfl, hw6⟩))
          all_goals exact ⟨⟨⟨R - S, by omega, rfl⟩, (hbr.trans (hw5.mono hbr.size)).trans (hw6.mono (by have := hbr.size; have := hw5.size; omega))⟩, by rw [leftOf_wb (by omega), leftOf_wb hR]; omega⟩
        · have oF' : (FloatKind.f64.format.order (fb R) (fb Y) == some .lt) = false := by
            rw [oF]
            rcases Nat.lt_or_ge (kb Y) (kb R) with h | h
            · rw [cmp_gt (by omega)]; rfl
            · rw [(icmp_eq _ _).2 (show (kb R : Int) = kb Y by omega)]; rfl
          have cL := fun w1 h => ldG hs hY0 hge hR hk w1 h
          have hsub := run_sub 22 (sub_wb (S := Y * 2 ^ (R.log2 - Y.log2)) (Nat.mul_pos hY0 (Nat.two_pow_pos _)) (take_le hY0 hge hR hk) hR)
          have hSp : 0 < Y * 2 ^ (R.log2 - Y.log2) := Nat.mul_pos hY0 (Nat.two_pow_pos _)
          have hSR := take_le hY0 hge hR hk
          clear oF hk
          generalize Y * 2 ^ (R.log2 - Y.log2) = S at *
          go_wp2_with (first
            | (go_at_call 129; refine (cR _ hbr).mono ?_; rintro e w5 ⟨rfl, hw5⟩)
            | (go_at_call 130; refine (cL _ (hbr.trans (hw5.mono hbr.size))).mono ?_; rintro e w6 ⟨rfl, hw6⟩))
          all_goals exact ⟨⟨⟨R - S, by omega, rfl⟩, (hbr.trans (hw5.mono hbr.size)).trans (hw6.mono (by have := hbr.size; have := hw5.size; omega))⟩, by rw [leftOf_wb (by omega), leftOf_wb hR]; omega⟩
end Go.Proofs.YtaecedlhiclkdaaGreat.Mod
namespace Go.Proofs.YtaecedlhiclkdaaGreat.Mod
open Go Go.RowKit Vx
set_option linter.unusedVariables false
set_option linter.unusedSimpArgs false
set_option linter.constructorNameAsVariable false
set_option maxRecDepth 100000

/-- some float -/
abbrev SomeF (w : World) (e : Ending) (w' : World) : Prop := (∃ z, z < 18446744073709551616 ∧ e = .returned (.float .f64 z)) ∧ Below w.heap.size w w'
theorem isInfAny (x : Nat) (w : World) (hx : x < 18446744073709551616) (hs : 0 < w.heap.size) : Calls P 127 #[.float .f64 x, .int .i64 0] w fun e w' => (∃ b, e = .returned (.bool b)) ∧ Below w.heap.size w w' := by
  have hA := absC x w hx hs
  generalize x % 9223372036854775808 = z at hA
  go_enter Tryz.func127, Tryz.ntmps127
  go_wp2_with (go_at_call 38; refine hA.mono ?_; rintro e w' ⟨rfl, hw⟩)
  all_goals (go_ret; exact ⟨⟨_, rfl⟩, hw⟩)
theorem isInfW (x X : Nat) (w : World) (hx : x < 18446744073709551616) (hX : X < 9007199254740992) (h : x % 9223372036854775808 = wb X) (hs : 0 < w.heap.size) : Calls P 127 #[.float .f64 x, .int .i64 0] w fun e w' => e = .returned (.bool false) ∧ Below w.heap.size w w' := by
  have hA := absC x w hx hs
  rw [h] at hA
  have o1 := order_max hX
  have o2 := order_nmax hX
  go_enter Tryz.func127, Tryz.ntmps127
  go_wp2_with (go_at_call 38; refine hA.mono ?_; rintro e w' ⟨rfl, hw⟩)
  all_goals (go_ret; exact ⟨rfl, hw⟩)
theorem nan_order {x y : Nat} (h : feq x x = false ∨ feq y y = false) : FloatKind.f64.format.order x y = none := by
  refine order_nan0 ?_
  rcases h with h | h
  · left
    rcases order_self x with k | k
    · unfold feq at h; rw [k] at h; cases h
    · exact k
  · right
    rcases order_self y with k | k
    · unfold feq at h; rw [k] at h; cases h
    · exact k
theorem feq_order {x y : Nat} (h : feq x y = true) : FloatKind.f64.format.order x y = some .eq := by simpa [feq] using h
theorem modNaN (x y : Nat) (w : World) (hx : x < 18446744073709551616) (hy : y < 18446744073709551616) (h : feq x x = false ∨ feq y y = false) (hs : 0 < w.heap.size) : Calls P 124 #[.float .f64 x, .float .f64 y] w (SomeF w) := by
  have cI := isInfAny x w hx hs
  have cN : ∀ w1, Below w.heap.size w w1 → Calls P 112 #[] w1 fun e w' => e = .returned (.float .f64 0x7ff8000000000001) ∧ Below w1.heap.size w1 w' := fun w1 h => nanC w1 (by have := h.size; omega)
  have hor : FloatKind.f64.format.order x x = none ∨ FloatKind.f64.format.order y y = none := h.imp (fun h => nan_order (.inl h)) (fun h => nan_order (.inl h))
  rcases hor with o | o
  all_goals
    go_enter Tryz.func124, Tryz.ntmps124
    go_wp2_with (first
      | (go_at_call 127; refine cI.mono ?_; rintro e w1 ⟨⟨b, rfl⟩, hw1⟩)
      | (go_at_call 128; refine (isNaNC _ _).mono ?_; rintro e w2 ⟨rfl, rfl⟩)
      | (go_at_call 112; refine (cN _ (by first | exact hw1 | exact Below.refl _ _)).mono ?_; rintro e w3 ⟨rfl, hw3⟩))
  all_goals first
    | (exfalso; simp_all; done)
    | (go_ret; exact ⟨⟨_, by decide, rfl⟩, by first | exact hw3 | exact hw1.trans (hw3.mono hw1.size)⟩)
theorem near_neg {m : Nat} (hm : 0 < m) (hM : m < 9007199254740992) : FloatKind.f64.format.nearest true m 0 = 9223372036854775808 + wb m := by
  have h1 := near_wb hm hM
  unfold Ieee.Format.nearest at h1 ⊢
  rw [if_neg (by omega)] at h1 ⊢
  dsimp only at h1 ⊢
  have hc : ∀ n d, Ieee.Toward.even.cut true n d = Ieee.Toward.even.cut false n d := fun n d => rfl
  rw [hc]
  have hw : ∀ r, FloatKind.f64.format.word true r = 9223372036854775808 + FloatKind.f64.format.word false r := fun r => by
    unfold Ieee.Format.word
    rw [fsw]; simp
  rw [hw, h1]
theorem modN (x y : Nat) (w : World) (hx : x < 18446744073709551616) (hy : y < 18446744073709551616) (mx : mayF x = true) (my : mayF y = true) (h0 : feq y 0 = false) (hs : 0 < w.heap.size) : Calls P 124 #[.float .f64 x, .float .f64 y] w (SomeF w) := by
  cases sx : feq x x
  · exact modNaN x y w hx hy (.inl sx) hs
  cases sy : feq y y
  · exact modNaN x y w hx hy (.inr sy) hs
  obtain ⟨X, hX, ex, ex0⟩ := may_wb hx mx sx
  obtain ⟨Y, hY, ey, ey0⟩ := may_wb hy my sy
  have hY0 : 0 < Y := by
    rcases Nat.eq_zero_or_pos Y with rfl | h
    · rw [ey0 rfl] at h0
      have : feq 0 0 = true := by kernel_rfl
      rw [this] at h0; cases h0
    · exact h
  refine modC x X Y y w hx hX hy hY ey hY0 (by simpa [feq] using h0) (feq_order sy) (feq_order sx) (fun w1 h1 => isInfW x X w1 hx hX ex h1) ?_ hs
  rcases Nat.lt_or_ge x 9223372036854775808 with hl | hl
  · left
    have e : x = wb X := by rw [← ex, Nat.mod_eq_of_lt hl]
    refine ⟨e, ?_⟩
    rw [e]
    rcases Nat.eq_zero_or_pos X with rfl | hp
    · kernel_rfl
    · rw [order_zero hp hX]; rfl
  · right
    have hXp : 0 < X := by
      rcases Nat.eq_zero_or_pos X with rfl | h
      · have := ex0 rfl; omega
      · exact h
    have e : x = 9223372036854775808 + wb X := by omega
    refine ⟨by rw [e]; exact neg_word (wb_lt hX), ?_⟩
    have hr : FloatKind.f64.format.read x = .number true (kb X) ((X.log2 : Int) - 52) := by
      have := near_read (s := true) hXp hX
      rw [near_neg hXp hX, ← e] at this
      exact this
    unfold Ieee.Format.order
    rw [hr, read_zero, order_numbers, signed_neg, signed_pos, Nat.zero_mul, cmp_lt]
    have h1 := kb_lo hXp hX
    have := Nat.two_pow_pos (((X.log2 : Int) - 52) - min ((X.log2 : Int) - 52) (-1074)).toNat
    have := Nat.mul_pos (show 0 < kb X by omega) this
    omega
theorem ModC (x y : Nat) (w : World) (hx : x < 18446744073709551616) (hy : y < 18446744073709551616) (mx : mayF x = true) (my : mayF y = true) (h0 : feq y 0 = false) (hs : 0 < w.heap.size) : Calls P 111 #[.float .f64 x, .float .f64 y] w (SomeF w) := by
  have c := modN x y w hx hy mx my h0 hs
  go_enter Tryz.func111, Tryz.ntmps111
  go_wp2_with (go_at_call 124; refine c.mono ?_; rintro e w1 ⟨⟨z, hz, rfl⟩, hw1⟩)
  all_goals (go_ret; exact ⟨⟨_, hz, rfl⟩, hw1⟩)

/-! ### num -/
theorem doneC (z : Nat) (w : World) (hz : z < 18446744073709551616) (hs : 0 < w.heap.size) : Calls P 58 #[.float .f64 z] w fun e w' => (e = .returned (.tuple #[.float .f64 z, .int .i64 0]) ∨ e = .returned (.tuple #[.float .f64 0, .int .i64 10])) ∧ Below w.heap.size w w' := by
  have cM := Con.numMay z w hz hs
  go_enter Tryz.func58, Tryz.ntmps58
  go_wp2_with (go_at_call 23; refine cM.mono ?_; rintro e w1 ⟨rfl, hw1⟩)
  all_goals first
    | (go_ret2; exact ⟨.inl rfl, hw1⟩)
    | (go_ret2; exact ⟨.inr rfl, hw1⟩)
end Go.Proofs.YtaecedlhiclkdaaGreat.Mod
namespace Go.Proofs.YtaecedlhiclkdaaGreat.Mod
open Go Go.RowKit Vx
set_option linter.unusedVariables false
set_option linter.unusedSimpArgs false
set_option linter.constructorNameAsVariable false
set_option maxRecDepth 100000

abbrev NumOut (w : World) (e : Ending) (w' : World) : Prop :=
  ((∃ z, z < 18446744073709551616 ∧ e = .returned (.tuple #[.float .f64 z, .int .i64 0])) ∨ e = .returned (.tuple #[.float .f64 0, .int .i64 10]) ∨ e = .returned (.tuple #[.float .f64 0, .int .i64 2])) ∧ Below w.heap.size w w'
theorem run_none {op : BinOp} {x y : Nat} (t : TypeId) (ho : op = .mul ∧ FloatKind.f64.format.mul x y = none ∨ op = .quo ∧ FloatKind.f64.format.div x y = none) :
    ∃ f : World → Nat, (∀ w, f w < 18446744073709551616) ∧ ∀ w, (binOp op t (.float .f64 x) (.float .f64 y)).run P w = .ok (.float .f64 (f w)) w.drew := by
  refine ⟨fun w => (Question.nanBits .f64 x y).cut (w.tape w.drawn (.nanBits .f64 x y)), fun w => (nan_cut _ _ _).2, fun w => ?_⟩
  rcases ho with ⟨rfl, h⟩ | ⟨rfl, h⟩
  all_goals
    simp only [binOp, Op.floatArith, h]
    simp [Question.forced]
theorem numC (w : World) (hs : 0 < w.heap.size) (z : Nat) (w1 : World) (hz : z < 18446744073709551616) (hb : Below w.heap.size w w1) : Calls P 23 #[.float .f64 z] w1 fun e w' => e = .returned (.bool (mayF z)) ∧ Below w.heap.size w w' :=
  (Con.numMay z w1 hz (by have := hb.size; omega)).mono fun e w' ⟨h, hb'⟩ => ⟨h, hb.trans (hb'.mono hb.size)⟩
theorem doneB (w : World) (hs : 0 < w.heap.size) (z : Nat) (w1 : World) (hz : z < 18446744073709551616) (hb : Below w.heap.size w w1) : Calls P 58 #[.float .f64 z] w1 fun e w' => (e = .returned (.tuple #[.float .f64 z, .int .i64 0]) ∨ e = .returned (.tuple #[.float .f64 0, .int .i64 10])) ∧ Below w.heap.size w w' :=
  (doneC z w1 hz (by have := hb.size; omega)).mono fun e w' ⟨h, hb'⟩ => ⟨h, hb.trans (hb'.mono hb.size)⟩
theorem mulC (x y : Nat) (w : World) (hx : x < 18446744073709551616) (hy : y < 18446744073709551616) (hs : 0 < w.heap.size) : Calls P 75 #[.float .f64 x, .float .f64 y] w (NumOut w) := by
  have cX := fun w1 h => numC w hs x w1 hx h
  have cY := fun w1 h => numC w hs y w1 hy h
  have cD := fun z w1 hz h => doneB w hs z w1 hz h
  have hb0 : Below w.heap.size w w := Below.refl _ _
  cases mx : mayF x
  · rw [mx] at cX
    go_enter Tryz.func75, Tryz.ntmps75
    go_wp2_with (go_at_call 23; refine (cX _ hb0).mono ?_; rintro e w1 ⟨rfl, hb⟩)
    all_goals (go_ret2; exact ⟨.inr (.inr rfl), hb⟩)
  cases my : mayF y
  · rw [mx] at cX
    rw [my] at cY
    by_cases hxy : x = y
    · rw [hxy, my] at mx; cases mx
    go_enter Tryz.func75, Tryz.ntmps75
    go_wp2_with (first
      | (go_at_call 23; refine (cX _ hb0).mono ?_; rintro e w1 ⟨rfl, hb⟩; clear hb0)
      | (go_at_call 23; refine (cY _ hb).mono ?_; rintro e w2 ⟨rfl, hb2⟩))
    all_goals (go_ret2; exact ⟨.inr (.inr rfl), hb2⟩)
  rw [mx] at cX
  rw [my] at cY
  cases hm : FloatKind.f64.format.mul x y with
  | some r =>
    have hr : r < 18446744073709551616 := FloatKind.f64.format.mul_lt hm
    have hmul := run_mul 22 hm
    go_enter Tryz.func75, Tryz.ntmps75
    go_wp2_with (first
      | (go_at_call 23; refine (cX _ hb0).mono ?_; rintro e w1 ⟨rfl, hb⟩; clear hb0)
      | (go_at_call 23; refine (cY _ hb).mono ?_; rintro e w2 ⟨rfl, hb2⟩)
      | (go_at_call 58; refine (cD r _ hr hb2).mono ?_; rintro e w3 ⟨rfl | rfl, hb3⟩))
    all_goals first
      | (go_ret2; exact ⟨.inl ⟨_, hr, rfl⟩, hb3⟩)
      | (go_ret2; exact ⟨.inr (.inl rfl), hb3⟩)
  | none =>
    obtain ⟨f, hf, hmul⟩ := run_none (op := .mul) 22 (.inl ⟨rfl, hm⟩)
    go_enter Tryz.func75, Tryz.ntmps75
    go_wp2_with (first
      | (go_at_call 23; refine (cX _ hb0).mono ?_; rintro e w1 ⟨rfl, hb⟩; clear hb0)
      | (go_at_call 23; refine (cY _ hb).mono ?_; rintro e w2 ⟨rfl, hb2⟩)
      | (go_at_call 58; refine (cD (f w2) _ (hf _) hb2.drew).mono ?_; rintro e w3 ⟨rfl | rfl, hb3⟩))
    all_goals first
      | (go_ret2; exact ⟨.inl ⟨_, hf _, rfl⟩, hb3⟩)
      | (go_ret2; exact ⟨.inr (.inl rfl), hb3⟩)
theorem modB (x y : Nat) (w : World) (hx : x < 18446744073709551616) (hy : y < 18446744073709551616) (mx : mayF x = true) (my : mayF y = true) (h0 : feq y 0 = false) (hs : 0 < w.heap.size) (w1 : World) (hb : Below w.heap.size w w1) :
    Calls P 111 #[.float .f64 x, .float .f64 y] w1 fun e w' => (∃ z, z < 18446744073709551616 ∧ e = .returned (.float .f64 z)) ∧ Below w.heap.size w w' :=
  (ModC x y w1 hx hy mx my h0 (by have := hb.size; omega)).mono fun e w' ⟨h, hb'⟩ => ⟨h, hb.trans (hb'.mono hb.size)⟩
theorem divC (x y : Nat) (w : World) (hx : x < 18446744073709551616) (hy : y < 18446744073709551616) (hs : 0 < w.heap.size) : Calls P 76 #[.float .f64 x, .float .f64 y] w (NumOut w) := by
  have cX := fun w1 h => numC w hs x w1 hx h
  have cY := fun w1 h => numC w hs y w1 hy h
  have cD := fun z w1 hz h => doneB w hs z w1 hz h
  have hb0 : Below w.heap.size w w := Below.refl _ _
  cases mx : mayF x
  · rw [mx] at cX
    go_enter Tryz.func76, Tryz.ntmps76
    go_wp2_with (go_at_call 23; refine (cX _ hb0).mono ?_; rintro e w1 ⟨rfl, hb⟩)
    all_goals (go_ret2; exact ⟨.inr (.inr rfl), hb⟩)
  cases my : mayF y
  · rw [mx] at cX
    rw [my] at cY
    by_cases hxy : x = y
    · rw [hxy, my] at mx; cases mx
    go_enter Tryz.func76, Tryz.ntmps76
    go_wp2_with (first
      | (go_at_call 23; refine (cX _ hb0).mono ?_; rintro e w1 ⟨rfl, hb⟩; clear hb0)
      | (go_at_call 23; refine (cY _ hb).mono ?_; rintro e w2 ⟨rfl, hb2⟩))
    all_goals (go_ret2; exact ⟨.inr (.inr rfl), hb2⟩)
  have cM := fun h0 => modB x y w hx hy mx my h0 hs
  rw [mx] at cX
  rw [my] at cY
  cases h0 : feq y 0
  · have cM := cM h0
    have o0 : (FloatKind.f64.format.order y 0 != some .eq) = true := by show (!(feq y 0)) = true; rw [h0]; rfl
    cases hm : FloatKind.f64.format.div x y with
    | some r =>
      have hr : r < 18446744073709551616 := FloatKind.f64.format.div_lt hm
      have hquo : ∀ w, (binOp .quo 22 (.float .f64 x) (.float .f64 y)).run P w = .ok (.float .f64 r) w := fun w => run_float_arith w .quo 22 .f64 x y r hm
      go_enter Tryz.func76, Tryz.ntmps76
      go_wp2_with (first
        | (go_at_call 23; refine (cX _ hb0).mono ?_; rintro e w1 ⟨rfl, hb⟩; clear hb0)
        | (go_at_call 23; refine (cY _ hb).mono ?_; rintro e w2 ⟨rfl, hb2⟩)
        | (go_at_call 111; refine (cM _ hb2).mono ?_; rintro e w4 ⟨⟨z, hz, rfl⟩, hb4⟩)
        | (go_at_call 58; refine (cD r _ hr hb4).mono ?_; rintro e w3 ⟨rfl | rfl, hb3⟩))
      all_goals first
        | (go_ret2; exact ⟨.inl ⟨_, hr, rfl⟩, hb3⟩)
        | (go_ret2; exact ⟨.inr (.inl rfl), hb3⟩)
        | (go_ret2; exact ⟨.inr (.inl rfl), hb4⟩)
    | none =>
      obtain ⟨f, hf, hquo⟩ := run_none (op := .quo) 22 (.inr ⟨rfl, hm⟩)
      go_enter Tryz.func76, Tryz.ntmps76
      go_wp2_with (first
        | (go_at_call 23; refine (cX _ hb0).mono ?_; rintro e w1 ⟨rfl, hb⟩; clear hb0)
        | (go_at_call 23; refine (cY _ hb).mono ?_; rintro e w2 ⟨rfl, hb2⟩)
        | (go_at_call 111; refine (cM _ hb2).mono ?_; rintro e w4 ⟨⟨z, hz, rfl⟩, hb4⟩)
        | (go_at_call 58; refine (cD (f w4) _ (hf _) hb4.drew).mono ?_; rintro e w3 ⟨rfl | rfl, hb3⟩))
      all_goals first
        | (go_ret2; exact ⟨.inl ⟨_, hf _, rfl⟩, hb3⟩)
        | (go_ret2; exact ⟨.inr (.inl rfl), hb3⟩)
        | (go_ret2; exact ⟨.inr (.inl rfl), hb4⟩)
  · have o0 : FloatKind.f64.format.order y 0 = some .eq := feq_order h0
    clear cM
    cases hm : FloatKind.f64.format.div x y with
    | some r =>
      have hr : r < 18446744073709551616 := FloatKind.f64.format.div_lt hm
      have hquo : ∀ w, (binOp .quo 22 (.float .f64 x) (.float .f64 y)).run P w = .ok (.float .f64 r) w := fun w => run_float_arith w .quo 22 .f64 x y r hm
      go_enter Tryz.func76, Tryz.ntmps76
      go_wp2_with (first
        | (go_at_call 23; refine (cX _ hb0).mono ?_; rintro e w1 ⟨rfl, hb⟩; clear hb0)
        | (go_at_call 23; refine (cY _ hb).mono ?_; rintro e w2 ⟨rfl, hb2⟩)
        | (go_at_call 58; refine (cD r _ hr hb2).mono ?_; rintro e w3 ⟨rfl | rfl, hb3⟩))
      all_goals first
        | (go_ret2; exact ⟨.inl ⟨_, hr, rfl⟩, hb3⟩)
        | (go_ret2; exact ⟨.inr (.inl rfl), hb3⟩)
    | none =>
      obtain ⟨f, hf, hquo⟩ := run_none (op := .quo) 22 (.inr ⟨rfl, hm⟩)
      go_enter Tryz.func76, Tryz.ntmps76
      go_wp2_with (first
        | (go_at_call 23; refine (cX _ hb0).mono ?_; rintro e w1 ⟨rfl, hb⟩; clear hb0)
        | (go_at_call 23; refine (cY _ hb).mono ?_; rintro e w2 ⟨rfl, hb2⟩)
        | (go_at_call 58; refine (cD (f w2) _ (hf _) hb2.drew).mono ?_; rintro e w3 ⟨rfl | rfl, hb3⟩))
      all_goals first
        | (go_ret2; exact ⟨.inl ⟨_, hf _, rfl⟩, hb3⟩)
        | (go_ret2; exact ⟨.inr (.inl rfl), hb3⟩)
theorem remC (x y : Nat) (w : World) (hx : x < 18446744073709551616) (hy : y < 18446744073709551616) (hs : 0 < w.heap.size) : Calls P 77 #[.float .f64 x, .float .f64 y] w (NumOut w) := by
  have cX := fun w1 h => numC w hs x w1 hx h
  have cY := fun w1 h => numC w hs y w1 hy h
  have cD := fun z w1 hz h => doneB w hs z w1 hz h
  have cN : ∀ w1, Below w.heap.size w w1 → Calls P 112 #[] w1 fun e w' => e = .returned (.float .f64 0x7ff8000000000001) ∧ Below w.heap.size w w' := fun w1 hb => (nanC w1 (by have := hb.size; omega)).mono fun e w' ⟨h, hb'⟩ => ⟨h, hb.trans (hb'.mono hb.size)⟩
  have hb0 : Below w.heap.size w w := Below.refl _ _
  cases mx : mayF x
  · rw [mx] at cX
    go_enter Tryz.func77, Tryz.ntmps77
    go_wp2_with (go_at_call 23; refine (cX _ hb0).mono ?_; rintro e w1 ⟨rfl, hb⟩)
    all_goals (go_ret2; exact ⟨.inr (.inr rfl), hb⟩)
  cases my : mayF y
  · rw [mx] at cX
    rw [my] at cY
    by_cases hxy : x = y
    · rw [hxy, my] at mx; cases mx
    go_enter Tryz.func77, Tryz.ntmps77
    go_wp2_with (first
      | (go_at_call 23; refine (cX _ hb0).mono ?_; rintro e w1 ⟨rfl, hb⟩; clear hb0)
      | (go_at_call 23; refine (cY _ hb).mono ?_; rintro e w2 ⟨rfl, hb2⟩))
    all_goals (go_ret2; exact ⟨.inr (.inr rfl), hb2⟩)
  have cM := fun h0 => modB x y w hx hy mx my h0 hs
  rw [mx] at cX
  rw [my] at cY
  cases h0 : feq y 0
  · have cM := cM h0
    have o0 : (FloatKind.f64.format.order y 0 == some .eq) = false := h0
    go_enter Tryz.func77, Tryz.ntmps77
    go_wp2_with (first
      | (go_at_call 23; refine (cX _ hb0).mono ?_; rintro e w1 ⟨rfl, hb⟩; clear hb0)
      | (go_at_call 23; refine (cY _ hb).mono ?_; rintro e w2 ⟨rfl, hb2⟩)
      | (go_at_call 111; refine (cM _ hb2).mono ?_; rintro e w4 ⟨⟨z, hz, rfl⟩, hb4⟩)
      | (go_at_call 58; refine (cD z _ hz hb4).mono ?_; rintro e w3 ⟨rfl | rfl, hb3⟩))
    all_goals first
      | (go_ret2; exact ⟨.inl ⟨_, hz, rfl⟩, hb3⟩)
      | (go_ret2; exact ⟨.inr (.inl rfl), hb3⟩)
  · have o0 : FloatKind.f64.format.order y 0 = some .eq := feq_order h0
    clear cM
    go_enter Tryz.func77, Tryz.ntmps77
    go_wp2_with (first
      | (go_at_call 23; refine (cX _ hb0).mono ?_; rintro e w1 ⟨rfl, hb⟩; clear hb0)
      | (go_at_call 23; refine (cY _ hb).mono ?_; rintro e w2 ⟨rfl, hb2⟩)
      | (go_at_call 112; refine (cN _ hb2).mono ?_; rintro e w3 ⟨rfl, hb3⟩))
    all_goals (go_ret2; exact ⟨.inl ⟨_, by decide, rfl⟩, hb3⟩)
end Go.Proofs.YtaecedlhiclkdaaGreat.Mod
namespace Go.Proofs.YtaecedlhiclkdaaGreat.Mod
open Go Go.RowKit Vx
set_option linter.unusedVariables false
set_option linter.unusedSimpArgs false
set_option linter.constructorNameAsVariable false
set_option maxRecDepth 100000

theorem intC (x : Nat) (w : World) (hx : x < 18446744073709551616) (hs : 0 < w.heap.size) : Calls P 113 #[.float .f64 x] w fun e w' => (∃ n : Int, -2147483648 ≤ n ∧ n ≤ 2147483647 ∧ e = .returned (.int .i32 n)) ∧ Below w.heap.size w w' := by
  have cX := fun w1 h => numC w hs x w1 hx h
  have hb0 : Below w.heap.size w w := Below.refl _ _
  cases sx : feq x x
  · have o0 : (FloatKind.f64.format.order x x != some .eq) = true := by show (!(feq x x)) = true; rw [sx]; rfl
    go_enter Tryz.func113, Tryz.ntmps113
    go_wp2
    all_goals (go_ret; exact ⟨⟨0, by decide, by decide, rfl⟩, hb0⟩)
  have o0 := feq_order sx
  cases mx : mayF x
  · rw [mx] at cX
    go_enter Tryz.func113, Tryz.ntmps113
    go_wp2_with (go_at_call 23; refine (cX _ hb0).mono ?_; rintro e w1 ⟨rfl, hb⟩)
    all_goals (go_ret; exact ⟨⟨0, by decide, by decide, rfl⟩, hb⟩)
  rw [mx] at cX
  obtain ⟨b1, b2⟩ := f2i_may hx mx sx
  obtain ⟨s, m, i, hd⟩ := num_of_may hx mx sx
  have hcv : ∀ w, (convert 22 2 (.float .f64 x)).run P w = .ok (.int .i64 (f2i x)) w := fun w => by
    refine run_convert_float_int w 22 2 .f64 .i64 x (f2i x) (by kernel_rfl) Tryz.underlying2 ?_
    have e : (FloatKind.f64.decode x).toInt .zero = some (f2i x) := by
      unfold f2i
      rw [hd]; rfl
    unfold floatToIntVal
    have e1 : IntKind.i64.min = -9223372036854775808 := rfl
    have e2 : IntKind.i64.max = 9223372036854775807 := rfl
    rw [e]
    show (if IntKind.i64.min ≤ f2i x ∧ f2i x ≤ IntKind.i64.max then some (f2i x) else none) = _
    rw [if_pos ⟨by omega, by omega⟩]
  generalize f2i x = n at *
  go_enter Tryz.func113, Tryz.ntmps113
  go_wp2_with (go_at_call 23; refine (cX _ hb0).mono ?_; rintro e w1 ⟨rfl, hb⟩)
  all_goals (go_ret; exact ⟨⟨_, by simp only [wrap32]; omega, by simp only [wrap32]; omega, rfl⟩, hb⟩)
theorem intB (w : World) (hs : 0 < w.heap.size) (x : Nat) (hx : x < 18446744073709551616) (w1 : World) (hb : Below w.heap.size w w1) : Calls P 113 #[.float .f64 x] w1 fun e w' => (∃ n : Int, -2147483648 ≤ n ∧ n ≤ 2147483647 ∧ e = .returned (.int .i32 n)) ∧ Below w.heap.size w w' :=
  (intC x w1 hx (by have := hb.size; omega)).mono fun e w' ⟨h, hb'⟩ => ⟨h, hb.trans (hb'.mono hb.size)⟩
theorem bits_nn (z : Int) : 0 ≤ bits .and .u32 z 31 := by
  unfold bits
  rw [IntKind.wrap_u32]
  omega
theorem run_shl (a z : Int) (w : World) : (Op.shift .shl .i32 a .u32 (bits .and .u32 z 31)).run P w = .ok (.int .i32 (IntKind.i32.wrap (a * 2 ^ min (bits .and .u32 z 31).toNat IntKind.i32.bits))) w := by
  rw [shift_shl_any _ _ _ _ (bits_nn z)]; rfl
theorem run_shr (a z : Int) (w : World) : (Op.shift .shr .i32 a .u32 (bits .and .u32 z 31)).run P w = .ok (.int .i32 (a / 2 ^ min (bits .and .u32 z 31).toNat IntKind.i32.bits)) w := by
  rw [shift_shr_any _ _ _ _ (bits_nn z)]; rfl
theorem run_shru (a z : Int) (w : World) : (Op.shift .shr .u32 a .u32 (bits .and .u32 z 31)).run P w = .ok (.int .u32 (a / 2 ^ min (bits .and .u32 z 31).toNat IntKind.u32.bits)) w := by
  rw [shift_shr_any _ _ _ _ (bits_nn z)]; rfl
theorem bitsC (op : Int) (x y : Nat) (w : World) (hx : x < 18446744073709551616) (hy : y < 18446744073709551616) (hs : 0 < w.heap.size) : Calls P 78 #[.int .u8 op, .float .f64 x, .float .f64 y] w (NumOut w) := by
  have cX := fun w1 h => numC w hs x w1 hx h
  have cY := fun w1 h => numC w hs y w1 hy h
  have iX := fun w1 h => intB w hs x hx w1 h
  have iY := fun w1 h => intB w hs y hy w1 h
  have hb0 : Below w.heap.size w w := Below.refl _ _
  have hshl := run_shl
  have hshr := run_shr
  have hshru := run_shru
  cases mx : mayF x
  · rw [mx] at cX
    go_enter Tryz.func78, Tryz.ntmps78
    go_wp2_with (go_at_call 23; refine (cX _ hb0).mono ?_; rintro e w1 ⟨rfl, hb⟩)
    all_goals (go_ret2; exact ⟨.inr (.inr rfl), hb⟩)
  cases my : mayF y
  · rw [mx] at cX
    rw [my] at cY
    by_cases hxy : x = y
    · rw [hxy, my] at mx; cases mx
    go_enter Tryz.func78, Tryz.ntmps78
    go_wp2_with (first
      | (go_at_call 23; refine (cX _ hb0).mono ?_; rintro e w1 ⟨rfl, hb⟩; clear hb0)
      | (go_at_call 23; refine (cY _ hb).mono ?_; rintro e w2 ⟨rfl, hb2⟩))
    all_goals (go_ret2; exact ⟨.inr (.inr rfl), hb2⟩)
  rw [mx] at cX
  rw [my] at cY
  go_enter Tryz.func78, Tryz.ntmps78
  go_wp2_with (first
    | (go_at_call 23; refine (cX _ hb0).mono ?_; rintro e w1 ⟨rfl, hb⟩; clear hb0)
    | (go_at_call 23; refine (cY _ hb).mono ?_; rintro e w2 ⟨rfl, hb2⟩; clear hb)
    | (go_at_call 113; refine (iX _ hb2).mono ?_; rintro e w3 ⟨⟨a, ha1, ha2, rfl⟩, hb3⟩; clear hb2)
    | (go_at_call 113; refine (iY _ hb3).mono ?_; rintro e w4 ⟨⟨b, hb1, hb2, rfl⟩, hb4⟩))
  all_goals first
    | (go_ret2; exact ⟨.inl ⟨_, near_lt _, rfl⟩, hb4⟩)
    | (go_ret2; exact ⟨.inr (.inr rfl), hb4⟩)
end Go.Proofs.YtaecedlhiclkdaaGreat.Mod
